/-
  THE DOCUMENT'S TEXTS of a model: a text's cells, from the model's own.
-/
import Derived.Test.YtkapnilnhoiooaaGreatCMoD
import Derived.Test.YtkapnilnhoiooaaGreatVLawModelRuns
set_option linter.unusedVariables false
set_option linter.unusedSimpArgs false
set_option maxRecDepth 100000
namespace Go.Am
open Go.Proofs
def zdf (l:List Value) (n:Nat):List Value:=((List.range n).map fun i=>(zdt l i).take 128).flatten
def zhm (l:List Value) (n:Nat):List Value:=(List.range n).map fun i=>Value.int .i64 (zbr l i)
def txtC (x:Int×List Value):List Value:=.int .u64 x.1 :: (zdf x.2 64 ++ zhm x.2 64)
def zgW (xs:List (Int×List Value)):List Value:=(xs.map txtC).flatten
theorem zfs (l:List Value) (n:Nat):zdf l (n+1)=zdf l n ++ (zdt l n).take 128:=by
 simp[zdf,List.range_succ]
theorem zjo {l:List Value} (hl:l.length=8256) {i:Nat} (hi:i < 64):(zdt l i).length=129:=by
 unfold zdt
 rw[List.length_take,List.length_drop]
 omega
theorem zde {l:List Value} (hl:l.length=8256):∀{n:Nat},n≤64→(zdf l n).length=n * 128
 | 0,_=>rfl
 | n+1,h=>by
   rw[zfs,List.length_append,zde hl (by omega),List.length_take,zjo hl (by omega)]
   omega
theorem zm3 (l:List Value) (n:Nat):(zhm l n).length=n:=by simp[zhm]
theorem zaT {x:Int×List Value} (hl:x.2.length=8256):(txtC x).length=8257:=by
 simp[txtC,zde hl,zm3]
theorem zo9 {l:List Value} (hl:l.length=8256) {i:Nat}:∀{n:Nat},n≤64→i < n→((zdf l n).drop (i * 128)).take 128=(zdt l i).take 128
 | 0,_,h=>by omega
 | n+1,h,hi=>by
   have hn:=zde hl (n:=n) (by omega)
   rw[zfs]
   by_cases e:i=n
   ·subst e
    rw[List.drop_append,List.drop_of_length_le (by omega),List.nil_append,hn,Nat.sub_self,List.drop_zero,List.take_take]
    rfl
   ·rw[List.drop_append_of_le_length (by omega),List.take_append_of_le_length (by rw[List.length_drop]; omega)]
    exact zo9 hl (by omega) (by omega)
theorem zm4 {l b:List Value} (hl:l.length=8256) (hb:b.length=129) {i:Nat} (hi:i < 64):∀{n:Nat},n≤64→zdf (setBlk l i b) n=if i < n then (zdf l n).take (i * 128) ++ b.take 128 ++ (zdf l n).drop (i * 128+128) else zdf l n
 | 0,_=>rfl
 | n+1,h=>by
   have hn:=zde hl (n:=n) (by omega)
   have hk:=zjo hl (i:=n) (by omega)
   have hb2:(b.take 128).length=128:=by rw[List.length_take]; omega
   have hk2:((zdt l n).take 128).length=128:=by rw[List.length_take]; omega
   rw[zfs,zfs,zm4 hl hb hi (n:=n) (by omega),zgS hl hb hi (by omega)]
   by_cases e:n=i
   ·subst e
    rw[if_pos rfl,if_neg (by omega),if_pos (by omega),List.take_append_of_le_length (by omega),List.take_of_length_le (l:=zdf l n) (by omega),List.drop_of_length_le (by rw[List.length_append]; omega),List.append_nil]
   ·rw[if_neg e]
    by_cases e2:i < n
    ·rw[if_pos e2,if_pos (by omega),List.take_append_of_le_length (by omega),List.drop_append_of_le_length (by omega),List.append_assoc]
    ·rw[if_neg e2,if_neg (by omega)]
theorem zrZ {l b:List Value} (hl:l.length=8256) (hb:b.length=129) {i:Nat} (hi:i < 64):zhm (setBlk l i b) 64=(zhm l 64).set i (.int .i64 (zoe b)):=by
 apply List.ext_getElem?
 intro j
 rw[List.getElem?_set]
 simp only[zhm,List.length_map,List.length_range,List.getElem?_map]
 by_cases hj:j < 64
 ·rw[List.getElem?_range hj]
  simp only[Option.map_some,zbr,zgS hl hb hi hj]
  by_cases e:i=j
  ·rw[if_pos e,if_pos hi,if_pos e.symm]
  ·rw[if_neg e,if_neg (Ne.symm e)]
 ·rw[List.getElem?_eq_none (by simpa using hj),if_neg (by omega)]
  rfl
theorem ztG {l:List Value} {i:Nat} (hi:i < 64):(zhm l 64)[i]?= some (.int .i64 (zbr l i)):=by
 simp[zhm,hi]
theorem ztH {id:Int} {l d:List Value} {v:Int} (hl:l.length=8256) (hd:d.length=128) {i:Nat} (hi:i < 64):(((txtC (id,l)).take (1+i * 128) ++ d ++ (txtC (id,l)).drop (1+i * 128+128)).set (8193+i) (.int .i64 v))=txtC (id,setBlk l i (d ++ [.int .u64 v])):=by
 have hb:(d ++ [Value.int .u64 v]).length=129:=by rw[List.length_append]; simp[hd]
 have hdl:=zde hl (n:=64) (by omega)
 have hvl:=zm3 l 64
 have e1:(d ++ [Value.int .u64 v]).take 128=d:=by rw[List.take_append_of_le_length (by omega),List.take_of_length_le (by omega)]
 have e2:zoe (d ++ [Value.int .u64 v])=v:=by
  unfold zoe
  rw[List.getElem?_append_right (by omega),hd]
  rfl
 have e3:(txtC (id,l)).take (1+i * 128)=.int .u64 id :: (zdf l 64).take (i * 128):=by
  rw[Nat.add_comm 1]
  simp only[txtC,List.take_succ_cons]
  rw[List.take_append_of_le_length (by omega)]
 have e4:(txtC (id,l)).drop (1+i * 128+128)=(zdf l 64).drop (i * 128+128) ++ zhm l 64:=by
  rw[show 1+i * 128+128=(i * 128+128)+1 by omega]
  simp only[txtC,List.drop_succ_cons]
  rw[List.drop_append_of_le_length (by omega)]
 rw[e3,e4,txtC]
 simp only[zm4 hl hb hi (n:=64) (by omega),if_pos hi,zrZ hl hb hi,e1,e2]
 have hx:(Value.int .u64 id :: (zdf l 64).take (i * 128) ++ d ++ ((zdf l 64).drop (i * 128+128) ++ zhm l 64))=(Value.int .u64 id :: ((zdf l 64).take (i * 128) ++ d ++ (zdf l 64).drop (i * 128+128))) ++ zhm l 64:=by simp
 have hy:(Value.int .u64 id :: ((zdf l 64).take (i * 128) ++ d ++ (zdf l 64).drop (i * 128+128))).length=8193:=by
  simp only[List.length_cons,List.length_append,List.length_take,List.length_drop,hdl,hd]
  omega
 rw[hx,List.set_append_right _ _ (by omega),hy,Nat.add_sub_cancel_left]
 rfl
theorem zpa {id:Int} {l:List Value} (hl:l.length=8256) {i:Nat} (hi:i < 64):(txtC (id,l))[8193+i]?= some (.int .i64 (zbr l i)):=by
 have hdl:=zde hl (n:=64) (by omega)
 rw[show 8193+i=(8192+i)+1 by omega,show txtC (id,l)=.int .u64 id :: (zdf l 64 ++ zhm l 64) from rfl,List.getElem?_cons_succ,List.getElem?_append_right (by omega),hdl,show 8192+i - 64 * 128=i by omega,ztG hi]
theorem zof {x:Int×List Value}:(txtC x)[0]?= some (.int .u64 x.1):=rfl
theorem zh6 {id j:Int} {l:List Value}:(txtC (id,l)).set 0 (.int .u64 j)=txtC (j,l):=rfl
theorem zm5 (a b:List (Int×List Value)):zgW (a ++ b)=zgW a ++ zgW b:=by simp[zgW]
theorem zjp:∀{xs:List (Int×List Value)} (h:∀x∈xs,x.2.length=8256) (i:Nat) (hi:i < xs.length),((zgW xs).drop (i * 8257)).take 8257=txtC xs[i]
 | x :: xs,h,0,hi=>by
   show ((txtC x ++ zgW xs).drop 0).take 8257=txtC x
   have:=zaT (h x (List.mem_cons_self ..))
   rw[List.drop_zero,List.take_append_of_le_length (by omega),List.take_of_length_le (by omega)]
 | x :: xs,h,i+1,hi=>by
   have hx:=zaT (h x (List.mem_cons_self ..))
   show ((txtC x ++ zgW xs).drop ((i+1) * 8257)).take 8257=_
   rw[show (i+1) * 8257=(txtC x).length+i * 8257 by omega,List.drop_append,List.drop_of_length_le (by omega),List.nil_append,Nat.add_sub_cancel_left]
   exact zjp (fun y hy=>h y (List.mem_cons_of_mem _ hy)) i (by simpa using hi)
def zcD (xs:List (Int×List Value)) (id:Int) (l:List Value):List (Int×List Value):=(xs.filter fun p=>!decide (p.1=id)) ++ [(id,l)]
theorem zgX (p:Int×List Value) (xs:List (Int×List Value)) (id:Int):zbj (p :: xs) id=if p.1=id then p.2 else zbj xs id:=by
 unfold zbj
 rw[List.find?_cons]
 by_cases h:p.1=id
 ·simp[h]
 ·simp[h]
theorem zm6 (xs:List (Int×List Value)) (id:Int) (l:List Value) (j:Int):zbj (zcD xs id l) j=if j=id then l else zbj xs j:=by
 unfold zcD
 induction xs with
 | nil=>
   show zbj [(id,l)] j=_
   rw[zgX]
   by_cases h:j=id
   ·rw[if_pos h.symm,if_pos h]
   ·rw[if_neg (Ne.symm h),if_neg h]
 | cons p xs ih=>
   by_cases h:p.1=id
   ·rw[List.filter_cons_of_neg (by simp[h]),ih,zgX]
    by_cases hj:j=id
    ·rw[if_pos hj,if_pos hj]
    ·rw[if_neg hj,if_neg hj,if_neg (by rw[h]; exact Ne.symm hj)]
   ·rw[List.filter_cons_of_pos (by simp[h]),List.cons_append,zgX,ih,zgX]
    by_cases hj:j=id
    ·rw[if_neg (by rw[hj]; exact h),if_pos hj,if_pos hj]
    ·rw[if_neg hj,if_neg hj]
theorem zls {xs:List (Int×List Value)} {id:Int} {l:List Value} {P:Int×List Value→Prop} (h:∀x∈xs,P x) (hl:P (id,l)):∀x∈zcD xs id l,P x:=fun x hx=>by
 rcases List.mem_append.1 hx with hx | hx
 ·exact h x (List.mem_filter.1 hx).1
 ·rw[List.mem_singleton.1 hx]; exact hl
theorem zh7 (xs:List (Int×List Value)) (id:Int) (l:List Value):(zcD xs id l).length≤xs.length+1:=by
 simp only[zcD,List.length_append,List.length_singleton]
 exact Nat.add_le_add_right (List.length_filter_le ..) 1
def zgt (rs:List zaj):List Int:=rs.map (·.id)
structure zlt (ids:List Int) (nx md:Int) (T:Int→List Value) (xs:List (Int×List Value)):Prop where
 ok:∀x∈xs,zaZ x.2∧(Lit.int .u64 x.1).wf=true
 here:∀id∈ids,zbj xs id=T id
 gone:∀id,id∉ids→T id=za0
 vers:∀id i,i < 64→0≤zbr (T id) i∧zbr (T id) i≤md
section
variable {ids ids' : List Int} {nx nx' md md' : Int} {T T' : Int→List Value} {xs:List (Int×List Value)}
theorem zlt.copy (k:zlt ids nx md T xs) {id src:Int} {l:List Value} (hl:l=T src) (hlo:zaZ l) (hid:(Lit.int .u64 id).wf=true) (hi:∀j,j∈ids'↔j∈ids∨j=id):
 zlt ids' nx' md (fun j=>if j=id then T src else T j) (zcD xs id l) where
 ok:=zls k.ok ⟨hlo,hid⟩
 here j hj:=by
  rw[zm6]
  split
  ·exact hl
  ·rename_i h
   exact k.here j (((hi j).1 hj).resolve_right h)
 gone j hj:=by
  have:=fun h=>hj ((hi j).2 h)
  rw[if_neg fun h=>this (.inr h)]
  exact k.gone j fun h=>this (.inl h)
 vers j i hi:=by split <;> exact k.vers _ i hi
theorem zlt.same (k:zlt ids nx md T xs) (hi:∀j,j∈ids'↔j∈ids):zlt ids' nx' md T xs where
 ok:=k.ok
 here j hj:=k.here j ((hi j).1 hj)
 gone j hj:=k.gone j fun h=>hj ((hi j).2 h)
 vers:=k.vers
theorem zlt.del (k:zlt ids nx md T xs) {id:Int} (hi:∀j,j∈ids'↔j∈ids∧j≠id) (h0:0≤md):zlt ids' nx' md (fun j=>if j=id then za0 else T j) xs where
 ok:=k.ok
 here j hj:=by
  have:=(hi j).1 hj
  rw[if_neg this.2]
  exact k.here j this.1
 gone j hj:=by
  split
  ·rfl
  ·rename_i h
   exact k.gone j fun h2=>hj ((hi j).2 ⟨h2,h⟩)
 vers j i hi:=by
  split
  ·rw[zfr hi]; exact⟨Int.le_refl _,h0⟩
  ·exact k.vers _ i hi
theorem zlt.put (k:zlt ids nx md T xs) (hT:∀id,zaZ (T id)) {id:Int} {i:Nat} {b:List Value} (hi:i < 64) (hb:zhO b) (hid:(Lit.int .u64 id).wf=true) (hm:id∈ids) (hmd:md≤md') (hv:0≤zoe b∧zoe b≤md'):
 zlt ids nx md' (fun j=>if j=id then setBlk (T id) i b else T j) (zcD xs id (setBlk (T id) i b)) where
 ok:=zls k.ok ⟨(hT id).set hb hi,hid⟩
 here j hj:=by
  rw[zm6]
  split
  ·rfl
  ·exact k.here j hj
 gone j hj:=by
  rw[if_neg (show ¬j=id from fun h=>hj (by rw[h]; exact hm))]
  exact k.gone j hj
 vers j m hm:=by
  have:=k.vers j m hm
  split
  ·unfold zbr
   rw[zgS (hT id).len hb.len hi hm]
   split
   ·exact hv
   ·have:=k.vers id m hm
    unfold zbr at this
    exact⟨this.1,by omega⟩
  ·exact⟨this.1,by omega⟩
end
theorem zr0 {nx:Int} {rs:List zaj} (R:zam nx rs) {i:Nat} {r:zaj} (h:rs[i]?= some r):zgU rs r.id=r:=by
 unfold zgU
 rw[R.uniq h]
 simp only[h,Option.getD_some]
theorem zp1 {nx:Int} {rs:List zaj} {o:Option (ByteArray×ByteArray)} {k:Int} (h:(zax nx rs o k).2.2=0):∃r,zax nx rs o k=(nx+1,rs ++ [r],0)∧r.id=nx∧r.snap=false∧r.prev=0:=by
 unfold zax at h ⊢
 split at h
 ·cases h
 ·split at h
  ·cases h
  ·split at h
   ·cases h
   ·split at h
    ·cases h
    ·rename_i a _ h1 h2 _ h3
     rw[if_neg h1,if_neg h2]
     exact⟨_,rfl,rfl,rfl,rfl⟩
theorem zr1 {nx:Int} {rs:List zaj} {o o2:Option (ByteArray×ByteArray)} (hR:zam nx rs) (h:(zaK nx rs o o2).2.2=0):∃r j s,zaK nx rs o o2=(nx+1,rs ++ [r],0)∧r.id=nx∧r.snap=false∧r.prev=s.id∧lookOf rs o=some j∧rs[j]?= some s:=by
 unfold zaK at h ⊢
 split at h
 ·cases h
 ·split at h
  ·cases h
  ·split at h
   ·cases h
   ·split at h
    ·cases h
    ·split at h
     ·cases h
     ·split at h
      ·rename_i hn
       obtain⟨r,hr⟩:=zcB ‹lookOf rs o=some _›
       rw[hr] at hn; cases hn
      ·rename_i q4 _ _ _ s q6
       rw[if_neg q4]
       exact⟨_,_,s,rfl,rfl,rfl,rfl,by assumption,q6⟩
theorem ztI {nx:Int} {rs:List zaj} {o:Option (ByteArray×ByteArray)} {st:Int} (h:(snapA nx rs o st).2.2=0):∃r a b j v,snapA nx rs o st=(nx+1,rs.map (zcp nx v) ++ [r],0)∧r.id=nx∧r.snap=true∧r.own=v.id∧snapOf o=some (a,b)∧lookN rs a noB=some j∧rs[j]?= some v:=by
 unfold snapA at h ⊢
 split at h
 ·cases h
 ·split at h
  ·cases h
  ·split at h
   ·cases h
   ·split at h
    ·cases h
    ·split at h
     ·rename_i a b _ _ i q2 q3 _ _ _ q5
      obtain⟨r,hr⟩:=zcB (o:=some (a,noB)) (rs:=rs) (i:=i) q2
      rw[hr] at q5; cases q5
     ·split at h
      ·cases h
      ·rename_i a b _ _ i q2 q3 _ _ _ v q5 q6
       rw[if_neg q3,if_neg q6]
       exact⟨_,_,_,_,v,rfl,rfl,rfl,rfl,by assumption,q2,q5⟩
theorem ztJ {nx:Int} {rs:List zaj} {o:Option (ByteArray×ByteArray)} (h:(zaW nx rs o).2.2.2=0):∃j v k x,zaW nx rs o=(nx,rs.map (zdU v x.root),v,0)∧lookOf rs o=some j∧rs[j]?= some v∧plcN rs v.prev=some k∧rs[k]?= some x:=by
 unfold zaW at h ⊢
 split at h
 ·cases h
 ·split at h
  ·cases h
  ·rename_i i hl
   obtain⟨v,hv⟩:=zcB hl
   rw[hv] at h ⊢
   simp only at h ⊢
   split at h
   ·cases h
   ·rename_i k hk
    obtain⟨x,hx⟩:∃x,rs[k]?= some x:=by
     obtain⟨h1, -⟩:=List.findIdx?_eq_some_iff_getElem.1 hk
     exact⟨_,List.getElem?_eq_getElem h1⟩
    rw[hx]
    exact⟨i,v,k,x,rfl,hl,hv,hk,hx⟩
theorem ztK (v:zaj) (q:PtI) (r:zaj):(zdU v q r).id=r.id:=by unfold zdU; split <;> rfl
theorem zel {F:zaj→zaj} (h:∀r,(F r).id=r.id) (rs:List zaj):zgt (rs.map F)=zgt rs:=by
 unfold zgt
 rw[List.map_map]
 exact List.map_congr_left fun r _=>h r
theorem zvl (rs:List zaj) (r:zaj) (j:Int):j∈zgt (rs ++ [r])↔j∈zgt rs∨j=r.id:=by
 simp[zgt]
theorem zkp (rs:List zaj) (id j:Int):j∈zgt (rs.filter fun r=>!decide (r.id=id))↔j∈zgt rs∧j≠id:=by
 simp only[zgt,List.mem_map,List.mem_filter,Bool.not_eq_true',decide_eq_false_iff_not]
 constructor
 ·rintro⟨r,⟨h1,h2⟩,rfl⟩
  exact⟨⟨r,h1,rfl⟩,h2⟩
 ·rintro⟨⟨r,h1,rfl⟩,h2⟩
  exact⟨r,⟨h1,h2⟩,rfl⟩
theorem zlu {rs:List zaj} {j:Nat} {r:zaj} (h:rs[j]?= some r):r.id∈zgt rs:=List.mem_map.2 ⟨r,List.mem_of_getElem? h,rfl⟩
theorem zjq {xs ys:List zaj} (h:xs.map cor=ys.map cor):zgt xs=zgt ys:=by
 have:=congrArg (List.map zaj.id) h
 rw[List.map_map,List.map_map] at this
 exact this
theorem zr2 (nx:Int) (rs:List zaj) (o:Option (ByteArray×ByteArray)):zgt (zba nx rs o).2.1=zgt rs:=by
 unfold zba
 split
 ·rfl
 ·split
  ·rfl
  ·split
   ·rfl
   ·split
    ·rfl
    ·split
     ·rfl
     ·split
      ·rfl
      ·exact zel (fun r=>(zhZ _ _ r).1) rs
theorem zm7 {rs:List zaj} {o:Option (ByteArray×ByteArray)} {j:Nat} {r:zaj} (hl:lookOf rs o=some j) (hr:rs[j]?= some r):zdZ rs o=r:=by
 unfold zdZ
 rw[hl]
 simp only[hr,Option.getD_some]
theorem zr3 {nx:Int} {rs:List zaj} {o:Option (ByteArray×ByteArray)} (h:(zfJ nx rs o).2.2=0) (j:Int):j∈zgt (zfJ nx rs o).2.1↔j∈zgt rs∧j≠(zdZ rs o).id:=by
 unfold zfJ at h ⊢
 split at h
 ·cases h
 ·rename_i a b
  split at h
  ·rename_i hb
   rw[if_pos hb]
   simp only at h ⊢
   unfold zav at h ⊢
   split at h
   ·cases h
   ·split at h
    ·cases h
    ·rename_i i hl
     obtain⟨v,hv⟩:=zcB hl
     rw[hv] at h ⊢
     simp only at h ⊢
     split at h
     ·cases h
     ·rename_i h3
      rw[if_neg h3,zm7 hl hv]
      exact zkp rs v.id j
  ·rename_i hb
   rw[if_neg hb]
   simp only at h ⊢
   unfold zaw at h ⊢
   split at h
   ·cases h
   ·rename_i h1
    rw[if_neg h1]
    split at h
    ·cases h
    ·rename_i i hl
     obtain⟨s,hs⟩:=zcB hl
     rw[hs] at h ⊢
     simp only at h ⊢
     split at h
     ·cases h
     ·rename_i h2
      rw[if_neg h2]
      split at h
      ·cases h
      ·rename_i k hk
       obtain⟨z,hz⟩:∃x,rs[k]?= some x:=by
        obtain⟨h1, -⟩:=List.findIdx?_eq_some_iff_getElem.1 hk
        exact⟨_,List.getElem?_eq_getElem h1⟩
       rw[hz] at h ⊢
       simp only at h ⊢
       split at h
       ·cases h
       ·split at h
        ·cases h
        ·rename_i d hd h4
         rw[if_neg h4,zm7 hl hs]
         simp only
         rw[zkp,zel fun r=>(zbp z s.prev d r).1]
theorem zdw:zas Tryz.prog 87=some (txtC (0,za0)):=by kernel_rfl
theorem zr4:zaE Tryz.prog 87 #[]=some (.agg (txtC (0,za0)).toArray):=by kernel_rfl
theorem ztL (id:Int):zaE Tryz.prog 87 #[(0,.int .u64 id)]=some (.agg (txtC (id,za0)).toArray):=by kernel_rfl
theorem zwt:zcZ Tryz.prog 30 87 8257 8712:=zc0 (by kernel_rfl)
theorem zp2 (h:AH):zaQ Tryz.prog h 30 0 #[]=some (.slice (some ⟨h.next,0,none⟩) 0 0,h.alloc (.cells [] 87 false)):=by kernel_rfl
structure TxS (g:AH) (p:Option Addr) (n:Nat) (xs:List (Int×List Value)):Prop where
 sh:zaR g p n 8257 (zgW xs)
 n:n=xs.length
 ok:∀x∈xs,zaZ x.2∧(Lit.int .u64 x.1).wf=true
theorem TxS.old {g g' : AH} {p:Option Addr} {n:Nat} {xs:List (Int×List Value)} (T:TxS g p n xs) (o:Old g g'):TxS g' p n xs:=⟨T.sh.old o,T.n,T.ok⟩
theorem TxS.len {g:AH} {p:Option Addr} {n:Nat} {xs:List (Int×List Value)} (T:TxS g p n xs):∀x∈xs,x.2.length=8256:=fun x hx=>(T.ok x hx).1.len
structure zeo (K:Xs):Prop where
 r17:zdm K
 of:K 32=none
 with_:K 37=none
 find:K 31=none
 put:K 30=none
 born:K 29=none
 do_:K 8=none
 new:K 6=none
 list:K 11=none
 written:K 16=none
 versions:K 13=none
 block:K 71=none
section
variable {K:Xs} {h:AH} {p pt:Option Addr} {n c nt ct:Nat} {rs:List zaj} {nx st md:Int} {xs:List (Int×List Value)}
theorem zr5 {xs:List (Int×List Value)} {id:Int} {u:Nat} (hu:u < xs.length) (hb:∀x∈xs.take u,x.1≠id) (he:xs[u].1=id):zbj xs id=xs[u].2:=by
 unfold zbj
 have:xs.find? (fun p=>decide (p.1=id))=some xs[u]:=by
  rw[List.find?_eq_some_iff_getElem]
  refine⟨by simpa using he,u,hu,rfl,fun j hj=>?_⟩
  have:=hb xs[j] (List.mem_take_iff_getElem.2 ⟨j,by omega,rfl⟩)
  simpa using this
 rw[this]
theorem zr6 {xs:List (Int×List Value)} {id:Int} (hb:∀x∈xs,x.1≠id):zbj xs id=za0:=by
 unfold zbj
 have:xs.find? (fun p=>decide (p.1=id))=none:=by
  rw[List.find?_eq_none]
  intro x hx
  simpa using hb x hx
 rw[this]
theorem ztM {α:Type} {xs:List α} {u:Nat} (hu:u < xs.length) {x:α} (hx:x∈xs.take (u+1)):x∈xs.take u∨x=xs[u]:=by
 rw[List.take_succ_eq_append_getElem hu] at hx
 exact (List.mem_append.1 hx).imp id List.mem_singleton.1
theorem zvu (kk:zeo K) (T:TxS h pt nt xs) (hn:nt≤1000) (id:Int) (bn:Int) (pb:Option Addr) (nb cb:Nat):
 Wf Tryz.prog K 32 [.agg #[.int .u64 bn,.slice pb nb cb,.slice pt nt ct,.int .u64 st,.int .i64 md],.int .u64 id] h fun v h'=>v=.agg (txtC (id,zbj xs id)).toArray∧Old h h':=by
 refine zgJ kk.of _ _ _ _ _ _ _ _ _ _ h _ fun g0 e0=>⟨_,zdw,fun g2 e2=>?_⟩
 have o0:=zab e0
 have o2:=zab e2
 have n0:=zaa e0
 have n2:=zaa e2
 have w0:=(o2.2 _ (by omega)).trans (zaf e0)
 have w2:=zaf e2
 have hz:(txtC (0,za0)).length=8257:=zaT zbq.len
 refine⟨_,_,_,zae w0 rfl,fun i k g=>∃u:Nat,i=u∧u≤nt∧nt - u=k∧zha h.next h g∧g0.next < g.next∧g.get g0.next=some (.cells (txtC (0,za0)) 87 false)∧∀x∈xs.take u,x.1≠id,⟨_,0,rfl,Nat.zero_le _,rfl,(o0.trans o2),by omega,w2,fun x hx=>by cases hx⟩,?_⟩
 rintro k8 g8 i10 ⟨u,rfl,hu,rfl,o8,l8,w8,hb⟩
 have oh8:Old h g8:=o8
 have hT:=T.n
 refine⟨fun z=>?_,fun z=>?_⟩
 ·obtain⟨b,off,rfl,hld, -⟩:=(T.sh.old oh8).getN (i:=u) (by omega)
  have hul:u < xs.length:=by omega
  rw[zjp T.len u hul] at hld
  have hx:=T.len _ (List.getElem_mem hul)
  refine zag ⟨by omega,z,_,by rw[Int.toNat_natCast]; exact hld,_,zdw,fun g15 e15=>?_⟩
  have lx:=zaT hx
  obtain⟨g16,k16,n16,o16,v16⟩:=zap e15 (vs:=txtC xs[u]) (by rw[lx,hz])
  have w16:=(v16 [] (fun c hc=>by cases hc)).1
  refine⟨lx,g16,k16,_,zae w16 zof,fun q=>?_,fun q i21 e21=>⟨nt - (u+1),by omega,u+1,(zcj e21 (by omega) (by omega)).trans rfl,by omega,rfl,oh8.trans o16,by omega,(o16.2 _ l8).trans w8,fun x hx=>?_⟩⟩
  ·obtain⟨g19,k19,nr19,w19⟩:=zrw ((o16.2 _ l8).trans w8) (k:=0) (vs:=txtC xs[u]) (by rw[lx,hz]; exact Nat.le_refl _)
   rw[List.take_zero,List.nil_append,Nat.zero_add,List.drop_of_length_le (by rw[lx,hz]; exact Nat.le_refl _),List.append_nil] at w19
   refine⟨_,zah w16 lx,lx,g19,k19,_,zah w19 lx,?_,⟨by rw[nr19.1]; have:=(oh8.trans o16).1; omega,fun y hy=>(nr19.2 y (by omega)).trans ((oh8.trans o16).2 y hy)⟩⟩
   rw[zr5 hul hb q]
   have:(id,xs[u].2)=xs[u]:=by rw[←q]
   rw[this]
  ·rcases ztM hul hx with hx | rfl
   ·exact hb x hx
   ·exact q
 ·obtain rfl:u=nt:=by omega
  rw[List.take_of_length_le (by omega)] at hb
  have lz:(txtC (id,za0)).length=8257:=zaT zbq.len
  obtain⟨g23,k23,nr23,w23⟩:=zrw w8 (k:=0) (vs:=txtC (id,za0)) (by rw[lz,hz]; exact Nat.le_refl _)
  rw[List.take_zero,List.nil_append,Nat.zero_add,List.drop_of_length_le (by rw[lz,hz]; exact Nat.le_refl _),List.append_nil] at w23
  refine⟨_,ztL id,lz,g23,k23,_,zah w23 lz,by rw[zr6 hb],⟨by rw[nr23.1]; have:=oh8.1; omega,fun y hy=>(nr23.2 y (by omega)).trans (oh8.2 y hy)⟩⟩
theorem zr7 (kk:zeo K) (T:TxS h pt nt xs) (hn:nt≤1000) {id:Int} {l:List Value} (hl:zaZ l) (hid:(Lit.int .u64 id).wf=true):
 Wf Tryz.prog K 37 [.slice pt nt ct,.agg (txtC (id,l)).toArray] h fun v h'=>∃p' n' c',v=.slice p' n' c'∧n'≤nt+1∧zaY h.next h' 87 8257 p' n' c' (zgW (zcD xs id l))∧TxS h' p' n' (zcD xs id l)∧Old h h':=by
 have hT:=T.n
 have hrm:zaU=140737488355328:=rfl
 refine zfH kk.with_ _ _ _ _ h _ fun g0 e0=>?_
 have o0:=zab e0
 have n0:=zaa e0
 have w0:=zaf e0
 have hz:(txtC (0,za0)).length=8257:=zaT zbq.len
 have hlx:(txtC (id,l)).length=8257:=zaT hl.len
 refine⟨_,_,_,_,zp2 g0,fun p9 n10 c11 i12 k g=>∃u:Nat,i12=u∧u≤nt∧nt - u=k∧zha h.next h g∧g0.next < g.next∧g.get h.next=some (.cells (txtC (id,l)) 87 false)∧zaY g0.next g 87 8257 p9 n10 c11 (zgW ((xs.take u).filter fun p=>!decide (p.1=id)))∧n10=((xs.take u).filter fun p=>!decide (p.1=id)).length,
  ⟨_,0,rfl,Nat.zero_le _,rfl,(o0.trans (zb8 _ _)),Nat.lt_succ_self _,((zb8 g0 _).2 _ (by omega)).trans w0,zaY.lit rfl rfl (Nat.le_refl _),rfl⟩,?_⟩
 rintro k6 g7 p9 n10 c11 i12 ⟨u,rfl,hu,rfl,o7,l7,w7,G,hn10⟩
 have oh7:Old h g7:=o7
 have hlen:n10≤u:=by
  rw[hn10]
  exact Nat.le_trans (List.length_filter_le _ _) (by rw[List.length_take]; omega)
 refine⟨fun z=>?_,fun z=>?_⟩
 ·obtain⟨b,off,rfl,hld, -⟩:=(T.sh.old oh7).getN (i:=u) (by omega)
  have hul:u < xs.length:=by omega
  rw[zjp T.len u hul] at hld
  have hx:=T.len _ (List.getElem_mem hul)
  have lx:=zaT hx
  refine zag ⟨by omega,z,_,by rw[Int.toNat_natCast]; exact hld,_,zdw,fun g17 e17=>?_⟩
  obtain⟨g18,k18,n18,o18,v18⟩:=zap e17 (vs:=txtC xs[u]) (by rw[lx,hz])
  have w18:=(v18 [] (fun c hc=>by cases hc)).1
  have G18:=G.old o18
  have oh18:=oh7.trans o18
  have htk:xs.take (u+1)=xs.take u ++ [xs[u]]:=List.take_succ_eq_append_getElem hul
  refine⟨lx,g18,k18,_,zae w18 zof,_,zae ((o18.2 _ (by omega)).trans w7) zof,fun q i21 e21=>⟨nt - (u+1),by omega,u+1,(zcj e21 (by omega) (by omega)).trans rfl,by omega,rfl,oh18,by omega,(o18.2 _ (by omega)).trans w7,?_,?_⟩,fun q=>⟨_,zah w18 lx,_,_,_,_,zfP zwt zdw hz (by decide) lx,?_⟩⟩
  ·rw[htk,List.filter_append]
   simpa[q] using G18
  ·rw[htk,List.filter_append]
   simpa[q] using hn10
  ·obtain⟨p27,c29,g30,k30,G30,o30,f30,m30⟩:=G18.push zwt (by omega) (m:=1) (ns:=txtC xs[u]) rfl (by rw[lx]) (by omega) (by omega)
   refine⟨p27,_,c29,g30,k30,fun i31 e31=>⟨nt - (u+1),by omega,u+1,(zcj e31 (by omega) (by omega)).trans rfl,by omega,rfl,⟨by have:=oh18.1; have:=o30.1; omega,fun y hy=>(o30.2 y (by omega)).trans (oh18.2 y hy)⟩,by have:=o30.1; omega,((o30.2 _ (by omega)).trans (o18.2 _ (by omega))).trans w7,?_,?_⟩⟩
   ·rw[htk,List.filter_append]
    simp only[List.filter_cons,q,decide_false,Bool.not_false,if_true,List.filter_nil]
    rw[zm5]
    simpa[zgW] using G30
   ·rw[htk,List.filter_append]
    simp only[List.filter_cons,q,decide_false,Bool.not_false,if_true,List.filter_nil,List.length_append,List.length_singleton,hn10]
 ·obtain rfl:u=nt:=by omega
  rw[List.take_of_length_le (by omega)] at G hn10
  refine⟨_,zah w7 hlx,_,_,_,_,zfP zwt zdw hz (by decide) hlx,?_⟩
  obtain⟨p37,c39,g40,k40,G40,o40,f40,m40⟩:=G.push zwt (by omega) (m:=1) (ns:=txtC (id,l)) rfl (by rw[hlx]) (by omega) (by omega)
  have e:zgW (zcD xs id l)=zgW (xs.filter fun p=>!decide (p.1=id)) ++ txtC (id,l):=by
   unfold zcD
   rw[zm5]
   simp[zgW]
  rw[←e] at G40
  exact⟨p37,_,c39,g40,k40,_,_,_,rfl,by omega,G40.weak (by omega),⟨G40.shows,by simp[zcD,hn10],zls T.ok ⟨hl,hid⟩⟩,by have:=oh7.1; have:=o40.1; omega,fun y hy=>(o40.2 y (by omega)).trans (oh7.2 y hy)⟩
end
def zlB (s:List Nat):List Value:=zbY .u8 s
def zlv (data:List Nat):List Nat:=data ++ List.replicate (128 - data.length) 0
theorem zr8:List.replicate 128 (Value.int .u8 0)=zlB (List.replicate 128 0):=by simp[zlB,zbY]
section
variable {K:Xs} {h:AH}
def part (data:List Nat) (i:Nat):List Nat:=data.take i ++ List.replicate (128 - i) 0
theorem ztN {data:List Nat} {i:Nat} (hi:i < data.length) (h128:i < 128):(part data i).set i data[i]=part data (i+1):=by
 unfold part
 have hl:(data.take i).length=i:=by rw[List.length_take]; omega
 rw[List.set_append,hl,if_neg (Nat.lt_irrefl i),Nat.sub_self,show 128 - i=(128 - (i+1))+1 by omega,List.replicate_succ,List.set_cons_zero,List.take_succ_eq_append_getElem hi,List.append_assoc]
 rfl
theorem ztO (data:List Nat) {i:Nat} (h:i=data.length∨i=128) (hi:i≤data.length) (h128:i≤128):part data i=zlv (data.take 128):=by
 unfold part zlv
 rcases h with rfl | rfl
 ·rw[List.take_of_length_le (Nat.le_refl _),List.take_of_length_le h128]
 ·rw[List.length_take,Nat.min_eq_left hi]
theorem ztP (s:List Nat) (i x:Nat):(zlB s).set i (.int .u8 x)=zlB (s.set i x):=by simp[zlB,zbY,List.map_set]
theorem ztQ (hk:K 71=none) {pp:Option Addr} {n c:Nat} {data:List Nat} (hd:zaR h pp n 1 (zbY .u8 data)):
 Wf Tryz.prog K 71 [.slice pp n c] h fun v h'=>v=.agg (zlB (zlv (data.take 128))).toArray∧Old h h':=by
 have hn:n=data.length:=by have:=hd.1; rw[za7] at this; omega
 subst hn
 refine zeW hk _ _ _ h _ fun g0 e0=>⟨zlB (List.replicate 128 0),?_,fun g2 e2=>⟨by simp[zlB,zbY],_,zat (zaf e2) (by simp[zlB,zbY]),?_⟩⟩
 ·rw[←zr8]; exact zdY
 have o0:=zab e0
 have o2:=zab e2
 have n0:=zaa e0
 have n2:=zaa e2
 have k3:=zak g0.next g2 (.cells (zlB (List.replicate 128 0)) 39 false)
 refine⟨fun i k g=>∃j:Nat,i=j∧j≤data.length∧j≤128∧128 - j=k∧g.next=g2.next∧Old h g∧g.get g0.next=some (.cells (zlB (part data j)) 39 false)∧g.get h.next=some (.cells (List.replicate 128 (.int .u8 0)) 39 false),
  ⟨128,0,rfl,Nat.zero_le _,Nat.zero_le _,rfl,k3.1,?_,zad _ _ _,?_⟩,?_⟩
 ·exact⟨by rw[k3.1,n2,n0]; omega,fun c hc=>by rw[k3.2 c (by omega),o2.2 c (by omega),o0.2 c hc]⟩
 ·rw[k3.2 _ (by omega),o2.2 _ (by omega)]
  exact zaf e0
 rintro k5 g i8 ⟨j,rfl,h1,h2,rfl,hn,ho,hc,hr⟩
 have last:∀(q:j=data.length∨j=128),∃l14:List Value,ldN g g0.next 0 128=some l14∧((List.length l14=128)∧∃h15:AH,stN g h.next 0 l14=some h15∧
  (∃l16:List Value,ldN h15 h.next 0 128=some l16∧(Value.agg l16.toArray=.agg (zlB (zlv (data.take 128))).toArray∧Old h h15))):=by
  intro q
  rw[ztO data q h1 h2] at hc
  have hl:(zlB (zlv (data.take 128))).length=128:=by simp[zlB,zbY,zlv]; omega
  exact⟨_,zah hc hl,hl,_,zat hr (by simp[hl]),_,zah (zad _ _ _) hl,rfl,ho.1,fun c hc=>by rw[(zak h.next g _).2 c (by omega),ho.2 c hc]⟩
 refine⟨fun q=>⟨fun q2=>?_,fun q2=>last (by omega)⟩,fun q=>last (by omega)⟩
 have hj:j < data.length:=by omega
 obtain⟨b,off,hpb,hld⟩:=(hd.old ho).get hj
 rw[zs4 hj] at hld
 subst hpb
 refine zag ⟨by omega,q,_,by rw[Int.toNat_natCast,Nat.mul_one]; exact hld,by omega,q2,_,zbi hc (by simp[zlB,zbY,part]; omega),fun i13 e13=>?_⟩
 have e13:=zcj e13 (by omega) (by omega)
 refine⟨128 - (j+1),by omega,j+1,by rw[e13]; rfl,hj,by omega,rfl,(zak _ _ _).1.trans hn,⟨by rw[(zak g0.next g _).1]; exact ho.1,fun c hc=>by rw[(zak g0.next g _).2 c (by omega),ho.2 c hc]⟩,?_,by rw[(zak g0.next g _).2 _ (by omega)]; exact hr⟩
 rw[zad,Nat.zero_add,Int.toNat_natCast,Nat.mul_one,ztP,ztN hj (by omega)]
end
theorem ztR {rs:List zaj} {q:ByteArray×ByteArray} {j:Nat} {r:zaj} (hl:lookOf rs (some q)=some j) (hr:rs[j]?= some r) (i:Int):findM rs (some q) i=if i < 0∨r.blocks≤i then (zaq,176) else (r,0):=by
 unfold findM
 simp only[hl,hr]
theorem ztS {rs:List zaj} {q:ByteArray×ByteArray} (hl:lookOf rs (some q)=none) (i:Int):findM rs (some q) i=(zaq,172):=by
 unfold findM
 simp only[hl]
def mC (nx:Int) (p:Option Addr) (n c:Nat) (pt:Option Addr) (nt ct:Nat) (st md:Int):List Value:=[.int .u64 nx,.slice p n c,.slice pt nt ct,.int .u64 st,.int .i64 md]
def zog (g:AH) (nx st md:Int) (rs:List zaj) (xs:List (Int×List Value)) (v:Value):Prop:=
 ∃p n c pt nt ct,v=.agg #[.int .u64 nx,.slice p n c,.slice pt nt ct,.int .u64 st,.int .i64 md]∧zbw nx rs nx p n g∧TxS g pt nt xs
theorem zbw.old {nx:Int} {R:List zaj} {i:Int} {p:Option Addr} {n:Nat} {g g' : AH} (b:zbw nx R i p n g) (o:Old g g'):zbw nx R i p n g':=by
 obtain⟨h1,h2,rs',h3,h4⟩:=b
 exact⟨h1,h2,rs',h3.old o,h4⟩
theorem ztT {g:AH} {a r:Nat} {nx:Int} {p pt:Option Addr} {n c nt ct:Nat} {st md:Int} {z:List Value} (wa:g.get a=some (.cells (mC nx p n c pt nt ct st md) 32 false)) (wr:g.get r=some (.cells z 32 false)) (hz:z.length=5)
 {C:Int→Option Addr→Nat→Nat→Option Addr→Nat→Nat→Int→Int→AH→Prop} (HC:∀g',zbR r g g'→C nx p n c pt nt ct st md g'):
 ∃i9:Int,∃(p10:Option Addr) (n11 c12:Nat),∃(p13:Option Addr) (n14 c15:Nat),∃i16:Int,∃i17:Int,ldN g a 0 5=some [(.int .u64 i9),(.slice p10 n11 c12),(.slice p13 n14 c15),(.int .u64 i16),(.int .i64 i17)]∧
  ((List.length [(Value.int .u64 i9),(.slice p10 n11 c12),(.slice p13 n14 c15),(.int .u64 i16),(.int .i64 i17)]=5)∧∃h18:AH,stN g r 0 [(.int .u64 i9),(.slice p10 n11 c12),(.slice p13 n14 c15),(.int .u64 i16),(.int .i64 i17)]=some h18∧
  (∃i19:Int,∃(p20:Option Addr) (n21 c22:Nat),∃(p23:Option Addr) (n24 c25:Nat),∃i26:Int,∃i27:Int,ldN h18 r 0 5=some [(.int .u64 i19),(.slice p20 n21 c22),(.slice p23 n24 c25),(.int .u64 i26),(.int .i64 i27)]∧
  C i19 p20 n21 c22 p23 n24 c25 i26 i27 h18)):=
 ⟨_,_,_,_,_,_,_,_,_,zah wa rfl,rfl,_,zat (vs:=mC nx p n c pt nt ct st md) wr (by rw[hz]; rfl),_,_,_,_,_,_,_,_,_,zah (zad _ _ _) rfl,HC _ (zak _ _ _)⟩
theorem zm8 {l a b:List Value} {i:Nat} (hl:l.length=8256) (ha:a.length=129) (hb:b.length=129) (hi:i < 64):setBlk (setBlk l i a) i b=setBlk l i b:=by
 unfold setBlk
 have h1:(l.take (i * 129)).length=i * 129:=by rw[List.length_take]; omega
 rw[ha,hb,List.append_assoc (l.take (i * 129)) a,List.take_append_of_le_length (by omega),List.take_of_length_le (l:=l.take (i * 129)) (by omega),List.drop_append,h1,List.drop_of_length_le (l:=l.take (i * 129)) (by omega),List.nil_append,show i * 129+129 - i * 129=129 by omega,List.drop_append,ha,List.drop_of_length_le (l:=a) (by omega),List.nil_append,Nat.sub_self,List.drop_zero]
section
variable {K:Xs} {h:AH} {p pt:Option Addr} {n c nt ct:Nat} {rs:List zaj} {nx st md:Int} {xs:List (Int×List Value)}
theorem zun (kk:zeo K) (T:zbL h p n rs) (R:zam nx rs) (f:ByteArray) (hf:f.size≤9223372036854775806) (i bn:Int):
 Wf Tryz.prog K 31 [.agg #[.int .u64 bn,.slice p n c,.slice pt nt ct,.int .u64 st,.int .i64 md],.string f,.int .i64 i] h fun v h'=>v=.tuple #[.agg (setC (findM rs (spl f) i).1).toArray,.int .i64 (findM rs (spl f) i).2]∧Old h h':=by
 refine zfG kk.find _ _ _ _ _ _ _ _ _ _ _ h _ fun g0 e0 g1 e1=>(zgj kk.r17.r16.r15.r1 f hf).mono ?_
 have o0:=zab e0
 have o1:=zab e1
 have n0:=zaa e0
 have n1:=zaa e1
 have o01:=o0.trans o1
 have w1:=(o1.2 _ (by omega)).trans (zaf e0)
 have z1:=zaf e1
 rintro _ g3 ⟨⟨a,b,hs,rfl⟩ | ⟨hs,rfl⟩,rfl⟩
 ·have hsp:=zaH hs
  rw[hsp]
  refine⟨_,_,_,rfl,fun _=>⟨_,_,_,zae w1 rfl,(zds kk.r17.r16 (c:=c) (T.old o01) R f hf).mono ?_⟩,fun y=>absurd rfl y⟩
  rintro _ g11 ⟨q,o11⟩
  have z11:=(o11.2 _ (by omega)).trans z1
  have hq:=namedD q
  rw[hsp] at hq
  rcases hq with ⟨j,r,hl,hr,rfl⟩ | ⟨hl,e,he,rfl⟩
  ·rw[ztR hl hr]
   refine⟨_,_,_,_,_,_,_,_,_,_,_,_,_,_,rfl,fun g26 e26=>?_⟩
   obtain⟨g27,k27,n27,o27,v27⟩:=zap e26 (vs:=setC r) rfl
   have w27:=(v27 [] (fun c hc=>by cases hc)).1
   have z27:=(o27.2 _ (by have:=o11.1; omega)).trans z11
   have oh27:=o01.trans (o11.trans o27)
   refine⟨rfl,g27,k27,fun _=>⟨fun y=>?_,fun y=>⟨_,zae w27 rfl,fun y2=>?_,fun y2=>?_⟩⟩,fun y=>absurd rfl y⟩
   ·rw[if_pos (.inl y)]
    exact⟨rfl,_,zat (vs:=setC zaq) z27 rfl,_,_,_,_,_,_,_,_,_,_,_,_,_,zah (zad _ _ _) rfl,rfl,zao oh27 (zak _ _ _) (by omega)⟩
   ·rw[if_pos (.inr y2)]
    exact⟨rfl,_,zat (vs:=setC zaq) z27 rfl,_,_,_,_,_,_,_,_,_,_,_,_,_,zah (zad _ _ _) rfl,rfl,zao oh27 (zak _ _ _) (by omega)⟩
   ·rw[if_neg fun z=>z.elim y y2]
    exact⟨_,_,_,_,_,_,_,_,_,_,_,_,_,zah w27 rfl,rfl,_,zat (vs:=setC r) z27 rfl,_,_,_,_,_,_,_,_,_,_,_,_,_,zah (zad _ _ _) rfl,rfl,zao oh27 (zak _ _ _) (by omega)⟩
  ·rw[ztS hl]
   refine⟨_,_,_,_,_,_,_,_,_,_,_,_,_,_,rfl,fun g26 e26=>?_⟩
   obtain⟨g27,k27,n27,o27,v27⟩:=zap e26 (vs:=setC zaq) rfl
   have z27:=(o27.2 _ (by have:=o11.1; omega)).trans z11
   have oh27:=o01.trans (o11.trans o27)
   exact⟨rfl,g27,k27,fun y=>absurd y he,fun _=>⟨rfl,_,zat (vs:=setC zaq) z27 rfl,_,_,_,_,_,_,_,_,_,_,_,_,_,zah (zad _ _ _) rfl,rfl,zao oh27 (zak _ _ _) (by omega)⟩⟩
 ·rw[zbB hs]
  exact⟨_,_,_,rfl,fun y=>absurd y (by decide),fun _=>⟨rfl,_,zat (vs:=setC zaq) z1 rfl,_,_,_,_,_,_,_,_,_,_,_,_,_,zah (zad _ _ _) rfl,rfl,zao o01 (zak _ _ _) (by omega)⟩⟩
theorem zuo {g:AH} {l:Nat} {id:Int} {x:List Value} (w:g.get l=some (.cells (txtC (id,x)) 87 false)) (hx:x.length=8256) {i:Nat} (h2:i < 64) {d:List Value} (hd:d.length=128) (v:Int):
 ∃g1 g2,stN g l (1+i * 128) d=some g1∧zbR l g g1∧st1 g1 l (8193+i * 1) (.int .i64 v)=some g2∧zbR l g1 g2∧g2.get l=some (.cells (txtC (id,setBlk x i (d ++ [.int .u64 v]))) 87 false):=by
 have hl:(txtC (id,x)).length=8257:=zaT hx
 obtain⟨g1,k1,n1,w1⟩:=zrw w (k:=1+i * 128) (vs:=d) (by omega)
 refine⟨g1,_,k1,n1,zbi w1 ?_,zak _ _ _,?_⟩
 ·simp only[List.length_append,List.length_take,List.length_drop,hl,hd]
  omega
 ·rw[zad,Nat.mul_one,hd,ztH hx hd h2]
end
end Go.Am
