/-
  The abstract machine: blocks as lists, no tape, no capacities of grown slices; an evaluator of the model's code over it. Definitions only, and the tree that holds blocks and slots.
-/
import Derived.Control
import Derived.Calls
import Derived.DeepKeys3
import Derived.Laws.CopyRow
import Derived.Laws.Append
import Derived.Laws.StructEq
namespace Go.Am
inductive Tr (α:Type) where
 | nil
 | node (v:Option α) (l r:Tr α)
theorem zb6 {n m:Nat} (h:n≠m):Nat.beq n m=false:=by
 cases e:Nat.beq n m
 ·rfl
 ·exact absurd (Nat.eq_of_beq_eq_true e) h
theorem zgV {n m:Nat} (h:n=m):Nat.beq n m=true:=by subst h; exact Nat.beq_refl n
namespace Tr
variable {α:Type}
def get:Tr α→Nat→Option α
 | .nil,_=>none
 | .node v l r,n=>cond (Nat.beq n 0) v (cond (Nat.beq (n % 2) 1) (l.get (n / 2)) (r.get (n / 2 - 1)))
def zlw (v:Option α):Nat→Tr α→Nat→Tr α
 | 0,t,_=>t
 | f+1,.nil,n=>cond (Nat.beq n 0) (.node v .nil .nil) (cond (Nat.beq (n % 2) 1) (.node none (zlw v f .nil (n / 2)) .nil) (.node none .nil (zlw v f .nil (n / 2 - 1))))
 | f+1,.node u l r,n=>cond (Nat.beq n 0) (.node v l r) (cond (Nat.beq (n % 2) 1) (.node u (zlw v f l (n / 2)) r) (.node u l (zlw v f r (n / 2 - 1))))
def set (t:Tr α) (n:Nat) (v:α):Tr α:=zlw (some v) (n+1) t n
def del (t:Tr α) (n:Nat):Tr α:=zlw none (n+1) t n
theorem get_nil (n:Nat):(Tr.nil:Tr α).get n=none:=rfl
theorem get_setF (v:Option α):∀(f:Nat) (t:Tr α) (n m:Nat),n < f→(zlw v f t n).get m=if m=n then v else t.get m:=by
 intro f
 induction f with
 | zero=>intro t n m h; omega
 | succ f ih=>
   intro t n m h
   have key:∀(u:Option α) (l r:Tr α),(cond (Nat.beq n 0) (.node v l r) (cond (Nat.beq (n % 2) 1) (.node u (zlw v f l (n / 2)) r) (.node u l (zlw v f r (n / 2 - 1)))):Tr α).get m=if m=n then v else (Tr.node u l r).get m:=by
    intro u l r
    by_cases h0:n=0
    ·subst h0
     by_cases hm:m=0
     ·subst hm; simp[get]
     ·have:Nat.beq m 0=false:=zb6 hm
      simp[get,this,hm]
    ·have hb0:Nat.beq n 0=false:=zb6 h0
     by_cases h1:n % 2=1
     ·have hb1:Nat.beq (n % 2) 1=true:=zgV h1
      simp only[hb0,hb1,cond_false,cond_true,get]
      by_cases hm0:m=0
      ·subst hm0
       have:¬(0=n):=fun e=>h0 e.symm
       simp[this]
      ·have hbm:Nat.beq m 0=false:=zb6 hm0
       simp only[hbm,cond_false]
       by_cases hm1:m % 2=1
       ·have hbm1:Nat.beq (m % 2) 1=true:=zgV hm1
        simp only[hbm1,cond_true]
        rw[ih l (n / 2) (m / 2) (by omega)]
        by_cases e:m=n
        ·subst e; simp
        ·rw[if_neg e,if_neg (by omega)]
       ·have hbm1:Nat.beq (m % 2) 1=false:=zb6 hm1
        simp only[hbm1,cond_false]
        rw[if_neg (by omega)]
     ·have hb1:Nat.beq (n % 2) 1=false:=zb6 h1
      simp only[hb0,hb1,cond_false,get]
      by_cases hm0:m=0
      ·subst hm0
       have:¬(0=n):=fun e=>h0 e.symm
       simp[this]
      ·have hbm:Nat.beq m 0=false:=zb6 hm0
       simp only[hbm,cond_false]
       by_cases hm1:m % 2=1
       ·have hbm1:Nat.beq (m % 2) 1=true:=zgV hm1
        simp only[hbm1,cond_true]
        rw[if_neg (by omega)]
       ·have hbm1:Nat.beq (m % 2) 1=false:=zb6 hm1
        simp only[hbm1,cond_false]
        rw[ih r (n / 2 - 1) (m / 2 - 1) (by omega)]
        by_cases e:m=n
        ·subst e; simp
        ·rw[if_neg e,if_neg (by omega)]
   cases t with
   | nil=>
     have hk:=key none .nil .nil
     have hn:(Tr.node none .nil .nil:Tr α).get m=none:=by
      simp only[get]
      cases Nat.beq m 0 <;> cases Nat.beq (m % 2) 1 <;> rfl
     rw[hn] at hk
     exact hk
   | node u l r=>exact key u l r
theorem get_set (t:Tr α) (n m:Nat) (v:α):(t.set n v).get m=if m=n then some v else t.get m:=get_setF _ _ _ _ _ (Nat.lt_succ_self n)
theorem get_del (t:Tr α) (n m:Nat):(t.del n).get m=if m=n then none else t.get m:=get_setF _ _ _ _ _ (Nat.lt_succ_self n)
def ofList (l:List α):Tr α:=(l.foldl (fun (p:Tr α×Nat) v=>(p.1.set p.2 v,p.2+1)) (.nil,0)).1
theorem zqt (l:List α):∀(t:Tr α) (n m:Nat),((l.foldl (fun (p:Tr α×Nat) v=>(p.1.set p.2 v,p.2+1)) (t,n)).1).get m=if m < n then t.get m else (l[m - n]?).or (t.get m):=by
 induction l with
 | nil=>intro t n m; simp
 | cons v l ih=>
   intro t n m
   simp only[List.foldl_cons]
   rw[ih,get_set]
   by_cases h:m < n
   ·rw[if_pos (by omega),if_neg (by omega),if_pos h]
   ·rw[if_neg h]
    by_cases e:m=n
    ·subst e; simp
    ·rw[if_neg (by omega),if_neg e]
     obtain⟨k,hk⟩:∃k,m - n=k+1:=⟨m - n - 1,by omega⟩
     rw[hk,show m - (n+1)=k by omega]
     simp
theorem get_ofList (l:List α) (m:Nat):(ofList l).get m=l[m]?:=by
 unfold ofList
 rw[zqt]
 simp[get]
end Tr
def zak:Nat:=18446744073709551616
inductive zzd where
 | ready | busy | done | over
 deriving DecidableEq
structure znA where
 state:zzd
 pending:Option Code
 env:Tr Value
 params:List Tmp
 assign:Code
 body:Code
 ks:List Tmp
inductive zb7 where
 | cells (cs:List Value) (elem:TypeId) (ro:Bool)
 | map (es:List MapEntry) (clock:Nat)
 | siter (s:ByteArray) (pos:Nat)
 | loop (l:znA)
structure AH where
 tr:Tr zb7
 next:Nat
namespace AH
def get (h:AH) (b:Nat):Option zb7:=h.tr.get b
def set (h:AH) (b:Nat) (o:zb7):AH:={ h with tr:=h.tr.set b o }
def del (h:AH) (b:Nat):AH:={ h with tr:=h.tr.del b }
def alloc (h:AH) (o:zb7):AH:={ tr:=h.tr.set h.next o,next:=h.next+1 }
theorem get_set (h:AH) (b c:Nat) (o:zb7):(h.set b o).get c=if c=b then some o else h.get c:=Tr.get_set _ _ _ _
theorem get_del (h:AH) (b c:Nat):(h.del b).get c=if c=b then none else h.get c:=Tr.get_del _ _ _
theorem get_alloc (h:AH) (c:Nat) (o:zb7):(h.alloc o).get c=if c=h.next then some o else h.get c:=Tr.get_set _ _ _ _
@[simp] theorem next_set (h:AH) (b:Nat) (o:zb7):(h.set b o).next=h.next:=rfl
@[simp] theorem next_del (h:AH) (b:Nat):(h.del b).next=h.next:=rfl
@[simp] theorem next_alloc (h:AH) (o:zb7):(h.alloc o).next=h.next+1:=rfl
end AH
abbrev Env:=Tr Value
def ze9:Value→Bool
 | .bool _ | .int _ _ | .string _ | .pointer none | .slice none 0 0 | .map none | .nilFunc | .nilIface=>true
 | _=>false
def zct:Value:=.tuple #[undef]
def isSkip:Value→Bool
 | .tuple vs=>match vs.toList with | [.tuple us]=>Nat.beq us.size 0 | _=>false
 | _=>false
def ev (e:Env):Operand→Value
 | .tmp t=>(e.get t).getD undef
 | .const v=>cond (ze9 v) v undef
 | .global _=>undef
 | .func f=>.func (.func f) #[] #[]
def putO (e:Env) (d:Option Tmp) (v:Value):Env:=match d with | some t=>e.set t v | none=>e
def putAll (e:Env):List Tmp→List Value→Env
 | t :: ts,v :: vs=>putAll (e.set t v) ts vs
 | _,_=>e
section
variable (P:Program)
def zby:Value→Bool
 | .agg _ | .tuple _=>true
 | _=>false
def zhB (t:TypeId):Option Bool:=match P.underlying t with | some (.struct _) | some (.array _ _)=>some true | some _=>some false | none=>none
def ptr (b off:Nat):Value:=.pointer (some ⟨b,off,none⟩)
def zo6 (h:AH) (e:TypeId) (cs:List Value):Value×AH:=(ptr h.next 0,h.alloc (.cells cs e false))
def zfQ (h:AH) (t:TypeId) (v:Value):Option Value:=
 match v with
 | .pointer (some ⟨b,off,none⟩)=>
   match h.get b with
   | some (.cells cs _ _)=>
     match zhB P t with
     | some true=>if off+P.cellsOf t≤cs.length then some (.agg ((cs.drop off).take (P.cellsOf t)).toArray) else none
     | some false=>cs[off]?
     | none=>none
   | _=>none
 | _=>none
def zas (h:AH) (b off:Nat) (vs:List Value):Option AH:=
 match h.get b with
 | some (.cells cs e false)=>if off+vs.length≤cs.length then some (h.set b (.cells (cs.take off ++ vs ++ cs.drop (off+vs.length)) e false)) else none
 | _=>none
def zcc (h:AH) (t:TypeId) (a v:Value):Option AH:=
 match a,v with
 | _,.tuple _=>none
 | .pointer (some ⟨b,off,none⟩),v=>if v.cells.size=P.cellsOf t∧(P.info? t).isSome=true then zas h b off v.cells.toList else none
 | _,_=>none
def zb2 (s:TypeId) (x:Value) (f:Nat):Option Value:=
 match P.underlying s with
 | some (.struct fs)=>
   match fs[f]?,x with
   | some fd,.pointer (some ⟨b,off,none⟩)=>if P.cellsOf fd.type=0 then none else some (ptr b (off+fd.offset))
   | _,_=>none
 | _=>none
def za4 (t:TypeId) (x i:Value):Option Value:=
 match P.underlying t,x,i with
 | some (.array n elem),.pointer (some ⟨b,off,none⟩),.int _ j=>if 0≤j∧j < n∧(P.info? elem).isSome=true then some (ptr b (off+j.toNat * P.cellsOf elem)) else none
 | some (.slice elem),.slice (some ⟨b,off,none⟩) n _,.int _ j=>if 0≤j∧j < n∧(P.info? elem).isSome=true then some (ptr b (off+j.toNat * P.cellsOf elem)) else none
 | _,_,_=>none
def zhC (t:TypeId) (cs:Array Value) (off:Nat):Option Value:=
 match zhB P t with
 | some true=>some (.agg (cs.extract off (off+P.cellsOf t)))
 | some false=>cs[off]?
 | none=>none
def zhD (t:TypeId) (x i:Value):Option Value:=
 match P.underlying t,x,i with
 | some (.array n elem),.agg cs,.int _ j=>if 0≤j∧j < n∧(P.info? elem).isSome=true then zhC P elem cs (j.toNat * P.cellsOf elem) else none
 | some .string,.string s,.int _ j=>if 0≤j then (s[j.toNat]?).map fun b=>.int .u8 b.toNat else none
 | _,_,_=>none
def zly (t:TypeId) (x:Value) (f:Nat):Option Value:=
 match P.underlying t,x with
 | some (.struct fs),.agg cs=>match fs[f]? with | some fd=>zhC P fd.type cs fd.offset | none=>none
 | _,_=>none
def zan (t:TypeId):Option (List Value):=match cond (Nat.blt t P.types.size) (P.info? t) none with | some i=>(match i.zero with | some (.tuple _)=>none | some z=>some z.cells.toList | none=>none) | none=>none
def zbz (x:Value) (y:Nat):Option Nat:=match x with | .int _ i=>if 0≤i∧i≤y then some i.toNat else none | _=>none
def aBounds (len cap:Nat) (lo hi mx:Option Value):Option (Nat×Nat×Nat):=
 match (match mx with | some v=>zbz v cap | none=>some cap) with
 | none=>none
 | some m=>
   match (match hi,mx with | some v,_=>zbz v m | none,none=>some len | none,some _=>none) with
   | none=>none
   | some hh=>
     match (match lo with | some v=>zbz v hh | none=>some 0) with
     | none=>none
     | some l=>some (l,hh,m)
def zar (h:AH) (t:TypeId) (x:Value) (lo hi mx:Option Value):Option Value:=
 match P.underlying t,x with
 | some (.array n elem),.pointer (some ⟨b,off,none⟩)=>
   match aBounds n n lo hi mx with
   | some (l,hh,m)=>if (P.info? elem).isSome=true∧n < zak then some (.slice (some ⟨b,if m=l then off else off+l * P.cellsOf elem,none⟩) (hh - l) (m - l)) else none
   | none=>none
 | some (.pointer arr),.pointer (some ⟨b,off,none⟩)=>
   match P.underlying arr with
   | some (.array n elem)=>
     match aBounds n n lo hi mx with
     | some (l,hh,m)=>if (P.info? elem).isSome=true∧n < zak then some (.slice (some ⟨b,if m=l then off else off+l * P.cellsOf elem,none⟩) (hh - l) (m - l)) else none
     | none=>none
   | _=>none
 | some .string,.string s=>
   match mx,aBounds s.size s.size lo hi none with
   | none,some (l,hh,_)=>some (.string (s.extract l hh))
   | _,_=>none
 | some (.slice elem),.slice none len cap=>
   match aBounds len cap lo hi mx with
   | some (l,hh,m)=>if (P.info? elem).isSome=true∧cap < zak then some (.slice none (hh - l) (m - l)) else none
   | none=>none
 | some (.slice elem),.slice (some ⟨b,off,none⟩) len cap=>
   if (P.info? elem).isSome=true then
    if cap=zak then
     match aBounds len len lo hi mx,h.get b with
     | some (l,hh,m),some (.cells _ e _)=>
       match mx with
       | none=>if P.cellsOf e=P.cellsOf elem then some (.slice (some ⟨b,off+l * P.cellsOf elem,none⟩) (hh - l) zak) else none
       | some _=>if 0 < len then some (.slice (some ⟨b,if m=l then off else off+l * P.cellsOf elem,none⟩) (hh - l) (m - l)) else none
     | _,_=>none
    else if cap < zak then
     match aBounds len cap lo hi mx with
     | some (l,hh,m)=>some (.slice (some ⟨b,if m=l then off else off+l * P.cellsOf elem,none⟩) (hh - l) (m - l))
     | none=>none
    else none
   else none
 | _,_=>none
def zlx:Value→Option Nat
 | .slice _ n _=>some n
 | .string s=>some s.size
 | _=>none
def firstC (h:AH) (size n:Nat):Value→Option (List Value)
 | .slice (some ⟨b,off,none⟩) len _=>
   match n * size with
   | 0=>some []
   | _+1=>
     match h.get b with
     | some (.cells cs _ _)=>if n≤len∧off+n * size≤cs.length then some ((cs.drop off).take (n * size)) else none
     | _=>none
 | .slice none _ _=>some []
 | .string s=>some (((s.extract 0 n).data.toList).map fun b=>.int .u8 b.toNat)
 | _=>none
def zaE:Nat:=140737488355328
def zaS (h:AH) (sType:TypeId) (xInt:Bool) (s x:Value):Option (Value×AH):=
 match P.underlying sType,s,xInt with
 | some (.slice elem),.slice base sLen sCap,false=>
   match P.info? elem,zlx x with
   | some i,some n=>
     match firstC h i.size sLen s,firstC h i.size n x,i.zero with
     | some old,some new,some z=>
       if z.cells.size=i.size∧0 < i.size∧new.length=n * i.size∧old.length=sLen * i.size then
        if sCap=zak then
         match base with
         | some ⟨b,_,none⟩=>
           match h.get b with
           | some (.cells _ e false)=>
             if e=elem∧(sLen+n) * i.bytes≤zaE∧sLen+n≤9223372036854775807 then some (.slice (some ⟨h.next,0,none⟩) (sLen+n) zak,(h.del b).alloc (.cells (old ++ new) elem false)) else none
           | _=>none
         | _=>none
        else if sLen+n≤sCap then
         match base with
         | some ⟨b,off,none⟩=>
           match n with
           | 0=>some (.slice base sLen sCap,h)
           | _+1=>
             match zas h b (off+sLen * i.size) new with
             | some h'=>some (.slice base (sLen+n) sCap,h')
             | none=>none
         | none=>some (.slice none (sLen+n) sCap,h)
         | _=>none
        else if sLen≤sCap∧(sLen+n) * i.bytes≤zaE∧sLen+n≤9223372036854775807 then
         some (.slice (some ⟨h.next,0,none⟩) (sLen+n) zak,h.alloc (.cells (old ++ new) elem false))
        else none
       else none
     | _,_,_=>none
   | _,_=>none
 | _,_,_=>none
def zdm (h:AH) (sType xType:TypeId) (s x:Value):Option (Value×AH):=
 match P.underlying sType,P.underlying xType,s,x with
 | some (.slice elem),some (.int _),.slice none 0 0,.int _ l=>
   match P.info? elem,zan P elem with
   | some i,some z=>
     if z.length=i.size∧0 < i.size∧0 < l∧l.toNat * i.bytes≤zaE∧l≤4611686018427387904 then
      some (.slice (some ⟨h.next,0,none⟩) l.toNat zak,h.alloc (.cells ((List.replicate l.toNat z).flatten) elem false))
     else none
   | _,_=>none
 | _,_,_,_=>none
def zeL (h:AH) (dType:TypeId) (d s:Value):Option (Value×AH):=
 match P.underlying dType,d with
 | some (.slice elem),.slice base dLen _=>
   match P.info? elem,zlx s with
   | some i,some sl=>
     match firstC h i.size (Nat.min sl dLen) s with
     | some cells=>
       match base,cells with
       | none,_=>some (.int .i64 (Nat.min sl dLen),h)
       | some ⟨_,_,none⟩,[]=>some (.int .i64 (Nat.min sl dLen),h)
       | some ⟨b,off,none⟩,c :: cs=>if dLen=0 then none else match zas h b off (c :: cs) with | some h'=>some (.int .i64 (Nat.min sl dLen),h') | none=>none
       | _,_=>none
     | none=>none
   | _,_=>none
 | _,_=>none
def zhE (h:AH) (t:TypeId) (x:Value):Option (Value×AH):=
 match P.underlying t,x with
 | some (.slice elem),.slice (some ⟨b,off,none⟩) (n+1) _=>
   match zan P elem with
   | some z=>if z.length=P.cellsOf elem then match zas h b off ((List.replicate (n+1) z).flatten) with | some h'=>some (undef,h') | none=>none else none
   | none=>none
 | some (.slice _),.slice _ 0 _=>some (undef,h)
 | some (.slice _),.slice none _ _=>some (undef,h)
 | _,_=>none
def zbg (h:AH) (t:TypeId) (len cap:Value):Option (Value×AH):=
 match P.underlying t,len,cap with
 | some (.slice elem),.int _ l,.int _ c=>
   match P.info? elem,zan P elem with
   | some i,some z=>
     if 0≤l∧l≤c∧c≤9223372036854775807∧i.bytes * c≤281474976710656∧z.length=i.size then
      some (.slice (some ⟨h.next,0,none⟩) l.toNat c.toNat,h.alloc (.cells ((List.replicate c.toNat z).flatten) elem false))
     else none
   | _,_=>none
 | _,_,_=>none
def zeM:Value→Bool
 | .tuple _=>true
 | _=>false
def za1 (t:TypeId) (parts:Array (Nat×Value)):Option Value:=
 if parts.toList.any (fun p=>zeM p.2) then none else
 match zan P t,P.underlying t with
 | some z,some (.struct fields)=>
   if fields.toList.all (fun f=>(P.info? f.type).isSome) then (Instr.fill (fun i=>(fields[i]?).map fun f=>(f.offset,P.cellsOf f.type)) z.toArray parts.toList).map .agg else none
 | some z,some (.array _ elem)=>
   if (P.info? elem).isSome=true then (Instr.fill (fun i=>some (i * P.cellsOf elem,P.cellsOf elem)) z.toArray parts.toList).map .agg else none
 | _,_=>none
def zay (h:AH) (t:TypeId) (len:Nat) (parts:Array (Nat×Value)):Option (Value×AH):=
 if parts.toList.any (fun p=>zeM p.2) then none else
 match P.underlying t with
 | some (.slice elem)=>
   match P.info? elem,zan P elem with
   | some i,some z=>
     if len * i.size≤16777216∧z.length=i.size∧len < zak then
      match Instr.fill (fun j=>some (j * i.size,i.size)) ((List.replicate len z).flatten).toArray parts.toList with
      | some cs=>some (.slice (some ⟨h.next,0,none⟩) len len,h.alloc (.cells cs.toList elem false))
      | none=>none
     else none
   | _,_=>none
 | _=>none
def zgW:Lit→Lit→Bool
 | .bool a,.bool b=>a == b
 | .int j a,.int k b=>decide (j=k) && a == b
 | .float j a,.float k b=>decide (j=k) && a == b
 | .string a,.string b=>a == b
 | .nil,.nil=>true
 | _,_=>false
def zaC:List Lit→List Lit→Bool
 | [],[]=>true
 | a :: as,b :: bs=>zgW a b && zaC as bs
 | _,_=>false
def zcp (kt:TypeId) (k:Value):Option (List Lit):=cond (k.formed P kt) (P.keyLits 40 kt k.cells.toList) none
def aEq (t:TypeId) (x y:Value):Option Bool:=
 match x,y with
 | .bool a,.bool b=>match P.underlying t with | some .bool=>some (a == b) | _=>none
 | .agg xs,.agg ys=>
   match P.keyTypeAt 40 t,zcp P t (.agg xs),zcp P t (.agg ys) with
   | true,some la,some lb=>some (zaC la lb)
   | _,_,_=>none
 | .pointer none,.pointer b=>match P.underlying t with | some (.pointer _)=>some b.isNone | _=>none
 | .pointer (some _),.pointer none=>match P.underlying t with | some (.pointer _)=>some false | _=>none
 | .slice a _ _,.slice none _ _=>match P.underlying t with | some (.slice _)=>some a.isNone | _=>none
 | .slice none _ _,.slice (some _) _ _=>match P.underlying t with | some (.slice _)=>some false | _=>none
 | .map a,.map none=>match P.underlying t with | some (.map _ _)=>some a.isNone | _=>none
 | .map none,.map (some _)=>match P.underlying t with | some (.map _ _)=>some false | _=>none
 | .nilFunc,.nilFunc=>match P.underlying t with | some (.func _ _ _)=>some true | _=>none
 | .func _ _ _,.nilFunc | .nilFunc,.func _ _ _=>match P.underlying t with | some (.func _ _ _)=>some false | _=>none
 | _,_=>none
def zcd (op:BinOp) (k:IntKind) (a b:Int):Option Value:=
 match op with
 | .add=>some (.int k (k.wrap (a+b)))
 | .sub=>some (.int k (k.wrap (a - b)))
 | .mul=>some (.int k (k.wrap (a * b)))
 | .quo=>if b=0 then none else some (.int k (k.wrap (a.tdiv b)))
 | .rem=>if b=0 then none else some (.int k (a.tmod b))
 | .and=>some (.int k (k.wrap (BitVec.ofInt k.bits a &&& BitVec.ofInt k.bits b).toNat))
 | .or=>some (.int k (k.wrap (BitVec.ofInt k.bits a ||| BitVec.ofInt k.bits b).toNat))
 | .xor=>some (.int k (k.wrap (BitVec.ofInt k.bits a ^^^ BitVec.ofInt k.bits b).toNat))
 | .andNot=>some (.int k (k.wrap (BitVec.ofInt k.bits a &&& ~~~ BitVec.ofInt k.bits b).toNat))
 | .eql=>some (.bool (a == b))
 | .neq=>some (.bool (a != b))
 | .lss=>some (.bool (decide (a < b)))
 | .leq=>some (.bool (decide (a≤b)))
 | .gtr=>some (.bool (decide (a > b)))
 | .geq=>some (.bool (decide (a≥b)))
 | _=>none
def zba (op:BinOp) (k:IntKind) (a b:Int):Option Value:=
 if b < 0 then none else
 match op with
 | .shl=>some (.int k (k.wrap (a * 2 ^ min b.toNat k.bits)))
 | .shr=>some (.int k (a.fdiv (2 ^ min b.toNat k.bits)))
 | _=>none
def zxq (op:BinOp) (a b:ByteArray):Option Value:=
 match op with
 | .add=>if ((a.size+b.size:Nat):Int)≤9223372036854775807 then some (.string (a ++ b)) else none
 | .eql=>some (.bool (a == b))
 | .neq=>some (.bool (!(a == b)))
 | .lss=>some (.bool (Op.bytesLess a.toList b.toList))
 | _=>none
def zbq (op:BinOp) (t:TypeId) (x y:Value):Option Value:=
 match x,y with
 | .int k a,.int k' b=>
   match op with
   | .shl=>zba .shl k a b
   | .shr=>zba .shr k a b
   | op=>if k=k' then zcd op k a b else none
 | .string a,.string b=>zxq op a b
 | x,y=>
   match op with
   | .eql=>(aEq P t x y).map .bool
   | .neq=>(aEq P t x y).map fun b=>.bool (!b)
   | _=>none
def aUn (op:UnOp) (x:Value):Option Value:=
 match op,x with
 | .neg,.int k n=>some (.int k (k.wrap (0 - n)))
 | .xor,.int k n=>some (.int k (k.wrap (BitVec.ofInt k.bits (if k.signed then -1 else k.max) ^^^ BitVec.ofInt k.bits n).toNat))
 | .not,.bool b=>some (.bool !b)
 | _,_=>none
def zaK:List Value→Option (List UInt8)
 | []=>some []
 | .int .u8 n :: r=>(zaK r).map (UInt8.ofNat n.toNat :: ·)
 | _=>none
def zaH (h:AH) (src dst:TypeId) (x:Value):Option (Value×AH):=
 match P.underlying src,P.underlying dst,x with
 | some (.int _),some (.int k),.int _ n=>some (.int k (k.wrap n),h)
 | some .string,some .string,.string s=>some (.string s,h)
 | some .string,some (.slice e),.string s=>
   match P.underlying e with
   | some (.int .u8)=>if s.size≤zaE∧P.cellsOf e=1 then some (.slice (some ⟨h.next,0,none⟩) s.size zak,h.alloc (.cells (s.data.toList.map fun b=>.int .u8 b.toNat) e false)) else none
   | _=>none
 | some (.slice e),some .string,.slice a n c=>
   match P.underlying e with
   | some (.int .u8)=>
     match firstC h 1 n (.slice a n c) with
     | some cs=>match zaK cs with | some bs=>some (.string ⟨bs.toArray⟩,h) | none=>none
     | none=>none
   | _=>none
 | some (.slice _),some (.slice e2),.slice (some ⟨b,off,none⟩) n c=>
   match P.underlying e2,h.get b with
   | some (.int .u8),some (.cells cs e false)=>if src=dst then some (.slice (some ⟨b,off,none⟩) n c,h.set b (.cells cs e false)) else none
   | _,_=>none
 | _,_,_=>none
def zdJ (mx:Bool) (k:IntKind):Int→List Value→Option Value
 | a,[]=>some (.int k a)
 | a,.int _ b :: r=>zdJ mx k (if mx then (if b > a then b else a) else (if b < a then b else a)) r
 | _,_=>none
def zdK (mx:Bool):List Value→Option Value
 | .int k a :: r=>zdJ mx k a r
 | _=>none
def zfR (kt:TypeId) (la:List Lit):List MapEntry→Nat→Option (Option (Nat×Value))
 | [],_=>some none
 | e :: es,i=>
   match zcp P kt e.key with
   | some lb=>cond (zaC la lb) (some (some (i,e.val))) (zfR kt la es (i+1))
   | none=>none
def zwF (kt:TypeId):Bool:=P.keyTypeAt 40 kt && P.tiled 40 kt
def zfS (t:TypeId):Option Value:=match cond (Nat.blt t P.types.size) (P.info? t) none with | some i=>(match i.zero with | some (.tuple _)=>none | some z=>some z | none=>none) | none=>none
def zbZ (h:AH) (t:TypeId) (m k:Value) (ok:Bool):Option Value:=
 match P.underlying t with
 | some (.map kt et)=>
   match zwF P kt,zcp P kt k,zfS P et with
   | true,some la,some z=>
     match m with
     | .map none=>some (cond ok (.tuple #[z,.bool false]) z)
     | .map (some r)=>
       match h.get r with
       | some (.map es _)=>
         match zfR P kt la es 0 with
         | some (some (_,v))=>some (cond ok (.tuple #[v,.bool true]) v)
         | some none=>some (cond ok (.tuple #[z,.bool false]) z)
         | none=>none
       | _=>none
     | _=>none
   | _,_,_=>none
 | _=>none
def zbs (h:AH) (t:TypeId) (m k v:Value):Option AH:=
 match P.underlying t,m with
 | some (.map kt _),.map (some r)=>
   match zwF P kt,zcp P kt k,h.get r with
   | true,some la,some (.map es clock)=>
     match zfR P kt la es 0 with
     | some (some (i,_))=>some (h.set r (.map (es.modify i fun e=>{ e with key:=k,val:=v }) clock))
     | some none=>some (h.set r (.map (es ++ [{ key:=k,val:=v,born:=clock }]) (clock+1)))
     | none=>none
   | _,_,_=>none
 | _,_=>none
def zeN (h:AH) (t:TypeId) (m k:Value):Option (Value×AH):=
 match P.underlying t,m with
 | some (.map kt _),.map (some r)=>
   match zwF P kt,zcp P kt k,h.get r with
   | true,some la,some (.map es clock)=>
     match zfR P kt la es 0 with
     | some (some (i,_))=>some (undef,h.set r (.map (es.eraseIdx i) clock))
     | some none=>some (undef,h.set r (.map es clock))
     | none=>none
   | _,_,_=>none
 | _,_=>none
def zlz (h:AH) (t:TypeId) (x:Value):Option Value:=
 match P.underlying t,x with
 | some .string,.string s=>some (.int .i64 s.size)
 | some (.array n _),_=>some (.int .i64 n)
 | some (.pointer arr),_=>match P.underlying arr with | some (.array n _)=>some (.int .i64 n) | _=>none
 | some (.slice _),.slice _ n _=>some (.int .i64 n)
 | some (.map _ _),.map none=>some (.int .i64 0)
 | some (.map _ _),.map (some r)=>match h.get r with | some (.map es _)=>some (.int .i64 es.length) | _=>none
 | _,_=>none
def zuN (t:TypeId) (x:Value):Option Value:=
 match P.underlying t,x with
 | some (.slice _),.slice _ _ c=>if c < zak then some (.int .i64 c) else none
 | _,_=>none
def zal (h:AH) (b:Builtin) (argTypes:Array TypeId) (args:List Value):Option (Value×AH):=
 match b,argTypes.toList,args with
 | .len,[t],[x]=>(zlz P h t x).map (·,h)
 | .cap,[t],[x]=>(zuN P t x).map (·,h)
 | .append,[st,xt],[s,x]=>match P.underlying xt with | some (.int _)=>zdm P h st xt s x | _=>zaS P h st (match P.underlying xt with | some (.slice _) | some .string=>false | _=>true) s x
 | .copy,t :: _,[d,s]=>zeL P h t d s
 | .clear,t :: _,[x]=>zhE P h t x
 | .delete,t :: _,[m,k]=>zeN P h t m k
 | .min,_,args=>(zdK false args).map (·,h)
 | .max,_,args=>(zdK true args).map (·,h)
 | _,_,_=>none
def aOp (o:Oper) (e:Env) (h:AH):Option (Value×AH):=
 match o.op with
 | .move x | .assign x=>some (ev e x,h)
 | .pick c a b=>match ev e c with | .bool t=>some (cond t (ev e a) (ev e b),h) | _=>none
 | .alloc t=>match zan P t with | some z=>some (zo6 h t z) | none=>none
 | .box t x=>match ev e x with | .tuple _=>none | v=>some (zo6 h t v.cells.toList)
 | .build t parts=>(za1 P t (parts.map fun (i,x)=>(i,ev e x))).map (·,h)
 | .buildSlice t n parts=>zay P h t n (parts.map fun (i,x)=>(i,ev e x))
 | .load t a=>(zfQ P h t (ev e a)).map (·,h)
 | .store t a v=>(zcc P h t (ev e a) (ev e v)).map (undef,·)
 | .nilCheck x=>match ev e x with | .pointer (some a)=>some (.pointer (some a),h) | .func (.func f) a b=>some (.func (.func f) a b,h) | .func (.yield f) a b=>some (.func (.yield f) a b,h) | _=>none
 | .binOp op t x y _=>(zbq P op t (ev e x) (ev e y)).map (·,h)
 | .unOp op _ x=>(aUn op (ev e x)).map (·,h)
 | .convert s d x=>zaH P h s d (ev e x)
 | .makeFunc fn a b=>match fn with | .func f=>some (.func (.func f) (a.map (ev e)) (b.map (ev e)),h) | _=>none
 | .makeMap _ r=>match r with | none=>some (.map (some h.next),h.alloc (.map [] 0)) | some _=>none
 | .makeSlice t l c=>zbg P h t (ev e l) (ev e c)
 | .slice t x lo hi mx=>(zar P h t (ev e x) (lo.map (ev e)) (hi.map (ev e)) (mx.map (ev e))).map (·,h)
 | .fieldAddr s x f=>(zb2 P s (ev e x) f).map (·,h)
 | .field t x f=>(zly P t (ev e x) f).map (·,h)
 | .indexAddr t x i=>(za4 P t (ev e x) (ev e i)).map (·,h)
 | .index t x i=>(zhD P t (ev e x) (ev e i)).map (·,h)
 | .lookup t m k ok=>(zbZ P h t (ev e m) (ev e k) ok).map (·,h)
 | .mapUpdate t m k v=>(zbs P h t (ev e m) (ev e k) (ev e v)).map (undef,·)
 | .range t x=>match P.underlying t,ev e x with | some .string,.string s=>some (ptr h.next 0,h.alloc (.siter s 0)) | _,_=>none
 | .next it true=>
   match ev e it with
   | .pointer (some ⟨r,0,none⟩)=>
     match h.get r with
     | some (.siter s pos)=>
       if pos < s.size then some (.tuple #[.bool true,.int .i64 pos,.int .i32 (Utf8.decode s pos).1],h.set r (.siter s (pos+(Utf8.decode s pos).2))) else some (.tuple #[.bool false],h)
     | _=>none
   | _=>none
 | .extract t i=>match ev e t with | .tuple vs=>cond (isSkip (.tuple vs)) none ((vs[i]?).map (·,h)) | _=>none
 | .call { callee:=.builtin b,args,argTypes }=>zal P h b argTypes (args.toList.map (ev e))
 | .makeInterface t x=>match P.underlying t with | some (.interface _)=>none | some _=>some (.iface t (ev e x),h) | none=>none
 | .typeAssert x _ t false=>match P.underlying t,ev e x with | some (.interface _),_=>none | some _,.iface u v=>if u=t then some (v,h) else none | _,_=>none
 | _=>none
inductive XF where
 | ext (g:List Value→AH→Option (Value×AH))
 | sum (g:List Value→AH→Option (Value×AH))
abbrev Xs:=FuncId→Option XF
inductive AX where
 | normal
 | exit (id:Nat)
 | ret
abbrev Ex:=Option Nat→List Tmp→Code→Env→AH→Option (AX×Env×AH)
def zrN (h:AH):Value→AH
 | .pointer (some a)=>h.del a.block
 | .slice (some a) _ _=>h.del a.block
 | .map (some r)=>h.del r
 | _=>h
def zc0 (ks:List Tmp) (d:Option Tmp) (e:Env) (h:AH):AH:=match d with | some t=>if ks.contains t then zrN h (ev e (.tmp t)) else h | none=>h
def zbt (e:Env) (h:AH):ResultVar→Option Value
 | .tmp t=>some (ev e (.tmp t))
 | .cell a t=>zfQ P h t (ev e (.tmp a))
def zbn (e:Env) (h:AH) (rs:List ResultVar):Option Value:=
 match rs.mapM (zbt P e h) with
 | some [v]=>some v
 | some vs=>some (.tuple vs.toArray)
 | none=>none
variable (K:Xs)
def grown (h:AH) (y:Option (Value×AH)):Option (Value×AH):=match y with | some (v,h')=>(match Nat.ble h.next h'.next with | true=>some (v,h') | false=>none) | none=>none
def zeO (r:Ex) (f:FuncId) (args:List Value) (h:AH):Option (Value×AH):=
 match P.funcs[f]? with
 | some fn=>
   match fn.body with
   | some c=>
     match r none [] c (Tr.ofList args) h with
     | some (.normal,e',h') | some (.ret,e',h')=>match zbn P e' h' fn.results.toList with | some v=>some (v,h') | none=>none
     | _=>none
   | none=>none
 | none=>none
def zce (r:Ex) (f:FuncId) (args:List Value) (h:AH):Option (Value×AH):=
 match K f with
 | some (.sum g)=>grown h (g args h)
 | some (.ext _)=>none
 | none=>zeO P r f args h
def zfa (r:Ex) (f:FuncId) (args:List Value) (h:AH):Option (Value×AH):=
 match K f with
 | some (.ext g)=>grown h (g args h)
 | _=>zce P K r f args h
def zc4 (r:Ex) (l:Nat) (args:List Value) (h:AH):Option (Value×AH):=
 match h.get l with
 | some (.loop L)=>
   if args.length=L.params.length then
    match r (some l) [] L.assign (putAll L.env L.params args) h with
    | some (.normal,e2,h2)=>
      match h2.get l with
      | some (.loop L2)=>
        if L2.state=.ready then
         match r (some l) [] L.body e2 (h2.set l (.loop { L2 with state:=.busy })) with
         | some (x,_,h4)=>
           match h4.get l with
           | some (.loop L4)=>
             match x with
             | .normal=>some (.bool true,h4.set l (.loop { L4 with state:=.ready,pending:=none }))
             | .exit id=>some (.bool false,h4.set l (.loop { L4 with state:=.done,pending:=some (.exit id) }))
             | .ret=>some (.bool false,h4.set l (.loop { L4 with state:=.done,pending:=some .ret }))
           | _=>none
         | none=>none
        else none
      | _=>none
    | _=>none
   else none
 | _=>none
def zcC (r:Ex) (v:Value) (args:List Value) (h:AH):Option (Value×AH):=
 match v with
 | .func (.func f) first cap=>zfa P K r f (first.toList ++ args ++ cap.toList) h
 | .func (.yield l) first _=>zc4 r l (first.toList ++ args) h
 | _=>none
def zbS (r:Ex) (o:Oper) (e:Env) (h:AH):Option (Value×AH):=
 match o.op with
 | .call { callee:=.value f,args,.. }=>zcC P K r (ev e f) (args.toList.map (ev e)) h
 | _=>aOp P o e h
def zap (ops:Array Oper) (o:Oper) (e:Env):Option Bool:=
 match o.guard with
 | none=>some true
 | some (j,w)=>match (ops[j]?).bind (·.dst) with | some d=>(match e.get d with | some (.bool b)=>some (b == w) | some v=>cond (isSkip v) (some false) none | none=>none) | none=>none
def zbh (r:Ex) (ks:List Tmp) (ops:Array Oper):List Oper→Env→AH→Option (Env×AH)
 | [],e,h=>some (e,h)
 | o :: os,e,h=>
   match zap ops o e with
   | some true=>
     match zbS P K r o e (zc0 ks o.dst e h) with
     | some (v,h')=>zbh r ks ops os (putO e o.dst v) h'
     | none=>none
   | some false=>zbh r ks ops os (putO e o.dst zct) h
   | none=>none
def zat (o:Op):Nat:=
 match o with
 | .load _ _ | .lookup _ _ _ _ | .slice _ _ _ _ _=>2
 | .convert s d _=>match P.underlying s,P.underlying d with | _,some .string=>2 | some .string,some (.slice _)=>1 | _,some (.int _)=>0 | _,_=>3
 | .call { callee:=.builtin .len,.. }=>2
 | .move _ | .assign _ | .pick _ _ _ | .build _ _ | .nilCheck _ | .binOp _ _ _ _ _ | .unOp _ _ _ | .makeFunc _ _ _
 | .fieldAddr _ _ _ | .field _ _ _ | .indexAddr _ _ _ | .index _ _ _ | .extract _ _=>0
 | .alloc _ | .box _ _ | .buildSlice _ _ _ | .makeMap _ _ | .makeSlice _ _ _=>1
 | _=>3
def eqS:Value→Value→Bool
 | .bool a,.bool b=>a == b
 | .int j a,.int k b=>j == k && a == b
 | .string a,.string b=>a == b
 | .pointer a,.pointer b=>a == b
 | .slice a n c,.slice b m d=>a == b && n == m && c == d
 | .map a,.map b=>a == b
 | .nilFunc,.nilFunc | .nilIface,.nilIface=>true
 | _,_=>false
def eqL:List Value→List Value→Bool
 | [],[]=>true
 | a :: as,b :: bs=>eqS a b && eqL as bs
 | _,_=>false
def eqV:Value→Value→Bool
 | .agg a,.agg b=>eqL a.toList b.toList
 | .tuple a,.tuple b=>eqL a.toList b.toList
 | a,b=>eqS a b
def zlA (ops:Array Oper) (o:Oper):List Tmp:=
 (o.op.operands.toList.filterMap fun | .tmp t=>some t | _=>none) ++ (match o.guard with | some (g,_)=>((ops[g]?).bind (·.dst)).toList | none=>[])
def zxr (ops:Array Oper) (bf:Array Nat) (acc:List Nat) (j:Nat):List Nat:=
 acc ++ ((List.range ops.size).filter fun i=>(Nat.beq i j || (bf.getD j 0).testBit i) && !acc.contains i)
def lazyOrd (ops:Array Oper) (bf:Array Nat):List Nat:=
 let acc:=((List.range ops.size).filter fun i=>match ops[i]? with | some o=>Nat.beq (zat P o.op) 3 | none=>false).foldl (zxr ops bf) []
 acc ++ (List.range ops.size).filter fun i=>!acc.contains i
def zfb (md:Region.Mode) (ops:Array Oper):List Nat→List Nat→Bool
 | _,[]=>true
 | seen,j :: l=>(match ops[j]? with | some o=>o.after.toList.all fun e=>!Region.binds md e || seen.contains e.on | none=>false) && !seen.contains j && zfb md ops (j :: seen) l
def zgC (n:Nat) (l:List Nat):Bool:=(List.range n).all fun i=>l.contains i
def zhF (a b:Oper):Bool:=match a.dst,b.dst with | some x,some y=>!Nat.beq x y | _,_=>true
def zhG (ops:Array Oper) (a b:Oper):Bool:=(match a.dst with | some x=>(zlA ops b).contains x | none=>false) || (match b.dst with | some y=>(zlA ops a).contains y | none=>false)
def zo7 (ops:Array Oper) (bf:Array Nat) (ia ib:Nat) (pa pb:Nat):Option (List (Nat×Nat)):=
 match ops[ia]?,ops[ib]? with
 | some a,some b=>
   match zhF a b,(bf.getD ib 0).testBit ia,zhG ops a b with
   | false,_,_=>none
   | _,true,_=>some []
   | _,false,true=>none
   | _,_,_=>
     match zat P a.op,zat P b.op with
     | 3,3 | 1,3=>none
     | 2,3=>some [(pa,pb)]
     | 3,2=>some [(pb,pa)]
     | _,_=>some []
 | _,_=>none
def zfc (ops:Array Oper) (bf:Array Nat) (ia pa:Nat):List Nat→Nat→Option (List (Nat×Nat))
 | [],_=>some []
 | ib :: l,pb=>match zo7 P ops bf ia ib pa pb,zfc ops bf ia pa l (pb+1) with | some x,some y=>some (x ++ y) | _,_=>none
def zfd (ops:Array Oper) (bf:Array Nat):List Nat→Nat→Option (List (Nat×Nat))
 | [],_=>some []
 | ia :: l,pa=>match zfc P ops bf ia pa l (pa+1),zfd ops bf l (pa+1) with | some x,some y=>some (x ++ y) | _,_=>none
def zuO (ops:Array Oper):Option (List Nat×List (Nat×Nat)):=
 let bf:=Region.before ops
 let ord:=lazyOrd P ops bf
 match zfb .any ops [] ord && zgC ops.size ord && zfb .text ops [] (List.range ops.size) && (let l:=Region.linearise .gc ops 0; zfb .gc ops [] l && zgC ops.size l) with
 | true=>match zfd P ops bf ord 0 with | some ps=>some (ord,ps) | none=>none
 | false=>none
def zc5 (r:Ex) (ops:Array Oper):List Nat→Env→AH→Option (List (Env×AH))
 | [],e,h=>some [(e,h)]
 | j :: js,e,h=>
   match ops[j]? with
   | some o=>
     match zap ops o e with
     | some true=>
       match zbS P K r o e h with
       | some (v,h')=>match zc5 r ops js (putO e o.dst v) h' with | some l=>some ((e,h) :: l) | none=>none
       | none=>none
     | some false=>match zc5 r ops js (putO e o.dst zct) h with | some l=>some ((e,h) :: l) | none=>none
     | none=>none
   | none=>none
def zbf (ops:Array Oper) (ord:List Nat) (l:List (Env×AH)) (p q:Nat):Bool:=
 match (ord[p]?).bind (ops[·]?),l[p]?,l[p+1]?,l[q]? with
 | some o,some (e,_),some (e1,_),some (_,h)=>
   match zap ops o e with
   | some false=>true
   | some true=>match o.dst,aOp P o e h with | some d,some (v,_)=>eqV v (ev e1 (.tmp d)) | _,_=>false
   | none=>false
 | _,_,_,_=>false
def zcr (r:Ex) (ops:Array Oper) (e:Env) (h:AH):Option (Env×AH):=
 match zuO P ops with
 | some (ord,ps)=>
   match zc5 P K r ops ord e h with
   | some l=>
     match ps.all (fun p=>zbf P ops ord l p.1 p.2 && zbf P ops ord l p.1 (p.2+1)) with
     | true=>l.getLast?
     | false=>none
   | none=>none
 | none=>none
def zbr (r:Ex) (v:Value) (l:Nat) (h:AH):Option (Value×AH):=
 match v with
 | .func (.func g) first cap=>zce P K r g (first.toList ++ [Value.func (Fn.yield l) #[] #[]] ++ cap.toList) h
 | _=>none
def zdn (rd:Option Nat) (h:AH):Bool:=match rd with | none=>true | some l=>(match h.get l with | some (.loop _)=>true | _=>false)
def zcq (r:Ex) (ks:List Tmp) (f:Operand) (params:List Tmp) (assign body:Code) (e:Env) (h:AH):Option (AX×Env×AH):=
 match zbr P K r (ev e f) h.next (h.alloc (.loop { state:=.ready,pending:=none,env:=e,params,assign,body,ks })) with
 | some (_,h2)=>
   match h2.get h.next with
   | some (.loop L)=>
     match L.state with
     | .busy=>none
     | _=>
       match L.pending with
       | none=>some (.normal,e,h2.del h.next)
       | some (.exit id)=>some (.exit id,e,h2.del h.next)
       | some .ret=>some (.ret,e,h2.del h.next)
       | _=>none
   | _=>none
 | none=>none
def zaz (r:Ex):Ex:=fun rd ks c e h=>
 match c with
 | .skip | .label _=>some (.normal,e,h)
 | .region _ ops draw=>
   match draw with
   | false=>match zbh P K r ks ops ops.toList e h with | some (e',h')=>some (.normal,e',h') | none=>none
   | true=>match zcr P K r ops e h with | some (e',h')=>some (.normal,e',h') | none=>none
 | .seq a b=>match r rd ks a e h with | some (.normal,e',h')=>r rd ks b e' h' | x=>x
 | .cond c a b=>match ev e c with | .bool t=>cond t (r rd ks a e h) (r rd ks b e h) | _=>none
 | .block id c=>match r rd ks c e h with | some (.exit id',e',h')=>cond (Nat.beq id' id) (some (.normal,e',h')) (some (.exit id',e',h')) | x=>x
 | .loop c=>match r rd ks c e h with | some (.normal,e',h')=>r rd ks (.loop c) e' h' | x=>x
 | .scope c=>r rd ks c e h
 | .exit id=>some (.exit id,e,h)
 | .ret=>some (.ret,e,h)
 | .rangeFunc f params assign body=>match zdn rd h with | false=>none | true=>zcq P K r ks f params.toList assign body e h
 | .goto _ | .refuse _=>none
def ex:Nat→Ex
 | 0=>fun _ _ _ _ _=>none
 | n+1=>zaz P K (ex n)
end
set_option linter.unusedVariables false
theorem zhH {α:Type} {b:Bool} {x:Option α} {y:α} (h:cond b none x=some y):b=false∧x=some y:=by
 cases b with
 | true=>cases h
 | false=>exact⟨rfl,h⟩
structure Rec where
 blk:Nat
 shift:Nat
 total:Nat
 esz:Nat
abbrev Fi:=Nat→Option Rec
inductive FR (φ:Fi):Fn→Fn→Prop
 | func (f:FuncId):FR φ (.func f) (.func f)
 | yield {l:Nat} {r:Rec} (h:φ l=some r):FR φ (.yield l) (.yield r.blk)
inductive VR (φ:Fi):Value→Value→Prop
 | junk (v:Value):VR φ (.tuple #[]) v
 | bool (b:Bool):VR φ (.bool b) (.bool b)
 | int (k:IntKind) (n:Int):VR φ (.int k n) (.int k n)
 | string (s:ByteArray):VR φ (.string s) (.string s)
 | ptrNil:VR φ (.pointer none) (.pointer none)
 | ptr {b off:Nat} {r:Rec} (h:φ b=some r):VR φ (.pointer (some ⟨b,off,none⟩)) (.pointer (some ⟨r.blk,r.shift+off,none⟩))
 | sliceNil (n c:Nat) (hc:c < zak):VR φ (.slice none n c) (.slice none n c)
 | slice {b off n c:Nat} {r:Rec} (h:φ b=some r) (hc:c < zak):VR φ (.slice (some ⟨b,off,none⟩) n c) (.slice (some ⟨r.blk,r.shift+off,none⟩) n c)
 | sliceO {b off n c:Nat} {r:Rec} (h:φ b=some r) (hc:c < zak) (hn:n≤c) (ht:r.shift+off+c * r.esz=r.total):VR φ (.slice (some ⟨b,off,none⟩) n zak) (.slice (some ⟨r.blk,r.shift+off,none⟩) n c)
 | sliceE {b off:Nat} {a:Addr} {r:Rec} (h:φ b=some r) (ha:a.block=r.blk∨r.total < r.shift):VR φ (.slice (some ⟨b,off,none⟩) 0 zak) (.slice (some a) 0 0)
 | mapNil:VR φ (.map none) (.map none)
 | map {b:Nat} {r:Rec} (h:φ b=some r):VR φ (.map (some b)) (.map (some r.blk))
 | func {fn fn' : Fn} {xs xs' ys ys' : Array Value} (hf:FR φ fn fn') (h1:xs.size=xs'.size) (h2:ys.size=ys'.size)
    (h3:∀(i:Nat) (v v' : Value),xs[i]?= some v→xs'[i]?= some v'→VR φ v v') (h4:∀(i:Nat) (v v' : Value),ys[i]?= some v→ys'[i]?= some v'→VR φ v v'):VR φ (.func fn xs ys) (.func fn' xs' ys')
 | skip {xs:Array Value} (h:isSkip (.tuple xs)=true):VR φ (.tuple xs) undef
 | nilFunc:VR φ .nilFunc .nilFunc
 | nilIface:VR φ .nilIface .nilIface
 | iface {t:TypeId} {v v' : Value} (h:VR φ v v'):VR φ (.iface t v) (.iface t v')
 | agg {xs xs' : Array Value} (h1:xs.size=xs'.size) (h2:∀(i:Nat) (v:Value),xs[i]?= some v→zby v=false)
    (h3:∀(i:Nat) (v v' : Value),xs[i]?= some v→xs'[i]?= some v'→VR φ v v'):VR φ (.agg xs) (.agg xs')
 | tuple {xs xs' : Array Value} (h1:xs.size=xs'.size) (h3:∀(i:Nat) (v v' : Value),xs[i]?= some v→xs'[i]?= some v'→VR φ v v'):VR φ (.tuple xs) (.tuple xs')
def Le (φ ψ:Fi):Prop:=∀b r,φ b=some r→ψ b=some r
theorem Le.refl (φ:Fi):Le φ φ:=fun _ _ h=>h
theorem Le.trans {φ ψ χ:Fi} (h:Le φ ψ) (k:Le ψ χ):Le φ χ:=fun b r e=>k b r (h b r e)
theorem FR.mono {φ ψ:Fi} (h:Le φ ψ) {f f' : Fn} (r:FR φ f f'):FR ψ f f':=by
 cases r with
 | func f=>exact .func f
 | yield e=>exact .yield (h _ _ e)
theorem VR.mono {φ ψ:Fi} (h:Le φ ψ) {v v' : Value} (r:VR φ v v'):VR ψ v v':=by
 induction r with
 | junk v=>exact .junk v
 | bool b=>exact .bool b
 | int k n=>exact .int k n
 | string s=>exact .string s
 | ptrNil=>exact .ptrNil
 | ptr e=>exact .ptr (h _ _ e)
 | sliceNil n c hc=>exact .sliceNil n c hc
 | slice e hc=>exact .slice (h _ _ e) hc
 | sliceO e hc hn ht=>exact .sliceO (h _ _ e) hc hn ht
 | sliceE e ha=>exact .sliceE (h _ _ e) ha
 | mapNil=>exact .mapNil
 | map e=>exact .map (h _ _ e)
 | func hf h1 h2 _ _ i3 i4=>exact .func (hf.mono h) h1 h2 i3 i4
 | skip h=>exact .skip h
 | nilFunc=>exact .nilFunc
 | nilIface=>exact .nilIface
 | iface _ i=>exact .iface i
 | agg h1 h2 _ i3=>exact .agg h1 h2 i3
 | tuple h1 _ i3=>exact .tuple h1 i3
theorem VR.one {φ:Fi} {v v' : Value} (r:VR φ v v') (h:zby v=false):v'.oneCell'= true:=by
 cases r <;> first | rfl | (simp[zby] at h; done)
def LR (φ:Fi):List Value→List Value→Prop
 | [],[]=>True
 | x :: xs,y :: ys=>VR φ x y∧zby x=false∧LR φ xs ys
 | _,_=>False
def AR (φ:Fi):List Value→List Value→Prop
 | [],[]=>True
 | x :: xs,y :: ys=>VR φ x y∧AR φ xs ys
 | _,_=>False
section
variable {φ ψ:Fi}
theorem LR.mono (h:Le φ ψ):∀{xs ys:List Value},LR φ xs ys→LR ψ xs ys
 | [],[],_=>trivial
 | _ :: _,_ :: _,r=>⟨r.1.mono h,r.2.1,LR.mono h r.2.2⟩
theorem LR.length:∀{xs ys:List Value},LR φ xs ys→xs.length=ys.length
 | [],[],_=>rfl
 | _ :: _,_ :: _,r=>by simp[LR.length r.2.2]
theorem AR.length:∀{xs ys:List Value},AR φ xs ys→xs.length=ys.length
 | [],[],_=>rfl
 | _ :: _,_ :: _,r=>by simp[AR.length r.2]
theorem LR.toAR:∀{xs ys:List Value},LR φ xs ys→AR φ xs ys
 | [],[],_=>trivial
 | _ :: _,_ :: _,r=>⟨r.1,LR.toAR r.2.2⟩
theorem LR.append:∀{xs ys us vs:List Value},LR φ xs ys→LR φ us vs→LR φ (xs ++ us) (ys ++ vs)
 | [],[],_,_,_,k=>k
 | _ :: _,_ :: _,_,_,r,k=>⟨r.1,r.2.1,LR.append r.2.2 k⟩
theorem AR.append:∀{xs ys us vs:List Value},AR φ xs ys→AR φ us vs→AR φ (xs ++ us) (ys ++ vs)
 | [],[],_,_,_,k=>k
 | _ :: _,_ :: _,_,_,r,k=>⟨r.1,AR.append r.2 k⟩
theorem LR.take:∀(n:Nat) {xs ys:List Value},LR φ xs ys→LR φ (xs.take n) (ys.take n)
 | 0,_,_,_=>by simp[LR]
 | _+1,[],[],_=>by simp[LR]
 | n+1,_ :: _,_ :: _,r=>⟨r.1,r.2.1,LR.take n r.2.2⟩
theorem LR.drop:∀(n:Nat) {xs ys:List Value},LR φ xs ys→LR φ (xs.drop n) (ys.drop n)
 | 0,_,_,r=>by simpa using r
 | _+1,[],[],_=>by simp[LR]
 | n+1,_ :: _,_ :: _,r=>LR.drop n r.2.2
theorem LR.at:∀{xs ys:List Value},LR φ xs ys→∀(i:Nat) (v:Value),xs[i]?= some v→zby v=false∧∃v',ys[i]?= some v'∧VR φ v v'
 | [],[],_,i,v,e=>by simp at e
 | _ :: _,y :: _,r,0,v,e=>by simp at e; subst e; exact⟨r.2.1,y,rfl,r.1⟩
 | _ :: _,_ :: _,r,i+1,v,e=>by simp at e; simpa using LR.at r.2.2 i v e
theorem AR.at:∀{xs ys:List Value},AR φ xs ys→∀(i:Nat) (v:Value),xs[i]?= some v→∃v',ys[i]?= some v'∧VR φ v v'
 | [],[],_,i,v,e=>by simp at e
 | _ :: _,y :: _,r,0,v,e=>by simp at e; subst e; exact⟨y,rfl,r.1⟩
 | _ :: _,_ :: _,r,i+1,v,e=>by simp at e; simpa using AR.at r.2 i v e
theorem LR.one:∀{xs ys:List Value},LR φ xs ys→∀v∈ys,v.oneCell'= true
 | [],[],_,v,h=>by simp at h
 | _ :: _,_ :: _,r,v,h=>by
   rcases List.mem_cons.1 h with h | h
   ·subst h; exact r.1.one r.2.1
   ·exact LR.one r.2.2 v h
theorem LR.of_at:∀{xs ys:List Value},xs.length=ys.length→(∀(i:Nat) (v:Value),xs[i]?= some v→zby v=false)→(∀(i:Nat) (v v' : Value),xs[i]?= some v→ys[i]?= some v'→VR φ v v')→LR φ xs ys
 | [],[],_,_,_=>trivial
 | [],_ :: _,h,_,_=>by simp at h
 | _ :: _,[],h,_,_=>by simp at h
 | x :: xs,y :: ys,h,h2,h3=>⟨h3 0 x y rfl rfl,h2 0 x rfl,LR.of_at (by simpa using h) (fun i v e=>h2 (i+1) v (by simpa using e)) (fun i v v' e e'=>h3 (i+1) v v' (by simpa using e) (by simpa using e'))⟩
theorem AR.of_at:∀{xs ys:List Value},xs.length=ys.length→(∀(i:Nat) (v v' : Value),xs[i]?= some v→ys[i]?= some v'→VR φ v v')→AR φ xs ys
 | [],[],_,_=>trivial
 | [],_ :: _,h,_=>by simp at h
 | _ :: _,[],h,_=>by simp at h
 | x :: xs,y :: ys,h,h3=>⟨h3 0 x y rfl rfl,AR.of_at (by simpa using h) (fun i v v' e e'=>h3 (i+1) v v' (by simpa using e) (by simpa using e'))⟩
theorem AR.two:∀{xs ys:List Value},AR φ xs ys→∀(i:Nat) (v v' : Value),xs[i]?= some v→ys[i]?= some v'→VR φ v v':=by
 intro xs ys h i v v' e e'
 obtain⟨u,hu,hr⟩:=h.at i v e
 rw[e'] at hu
 cases hu
 exact hr
theorem AR.func {fn fn' : Fn} {xs xs' ys ys' : Array Value} (hf:FR φ fn fn') (h:AR φ xs.toList xs'.toList) (k:AR φ ys.toList ys'.toList):VR φ (.func fn xs ys) (.func fn' xs' ys'):=
 .func hf (by simpa using h.length) (by simpa using k.length) (fun i v v' e e'=>h.two i v v' (by simpa using e) (by simpa using e')) (fun i v v' e e'=>k.two i v v' (by simpa using e) (by simpa using e'))
theorem AR.tuple {xs xs' : Array Value} (h:AR φ xs.toList xs'.toList):VR φ (.tuple xs) (.tuple xs'):=
 .tuple (by simpa using h.length) (fun i v v' e e'=>h.two i v v' (by simpa using e) (by simpa using e'))
theorem LR.agg {xs xs' : Array Value} (h:LR φ xs.toList xs'.toList):VR φ (.agg xs) (.agg xs'):=
 .agg (by simpa using h.length) (fun i v e=>(h.at i v (by simpa using e)).1) (fun i v v' e e'=>h.toAR.two i v v' (by simpa using e) (by simpa using e'))
theorem VR.toLR {xs:Array Value} {v' : Value} (h:VR φ (.agg xs) v'):∃xs',v'= .agg xs'∧LR φ xs.toList xs'.toList:=by
 cases h with
 | agg h1 h2 h3=>exact⟨_,rfl,LR.of_at (by simpa using h1) (fun i v e=>h2 i v (by simpa using e)) (fun i v w e e'=>h3 i v w (by simpa using e) (by simpa using e'))⟩
theorem VR.tupleAR {xs:Array Value} {v' : Value} (h:VR φ (.tuple xs) v'):xs=#[]∨isSkip (.tuple xs)=true∨∃xs',v'= .tuple xs'∧AR φ xs.toList xs'.toList:=by
 cases h with
 | junk=>exact .inl rfl
 | skip h=>exact .inr (.inl h)
 | tuple h1 h3=>exact .inr (.inr ⟨_,rfl,AR.of_at (by simpa using h1) (fun i v w e e'=>h3 i v w (by simpa using e) (by simpa using e'))⟩)
theorem VR.funcAR {fn:Fn} {xs ys:Array Value} {v' : Value} (h:VR φ (.func fn xs ys) v'):∃fn' xs' ys',v'= .func fn' xs' ys'∧FR φ fn fn'∧AR φ xs.toList xs'.toList∧AR φ ys.toList ys'.toList:=by
 cases h with
 | func hf h1 h2 h3 h4=>
   exact⟨_,_,_,rfl,hf,AR.of_at (by simpa using h1) (fun i v w e e'=>h3 i v w (by simpa using e) (by simpa using e')),AR.of_at (by simpa using h2) (fun i v w e e'=>h4 i v w (by simpa using e) (by simpa using e'))⟩
theorem VR.cells {v v' : Value} (h:VR φ v v') (ht:∀xs,v≠.tuple xs):LR φ v.cells.toList v'.cells.toList:=by
 by_cases ha:∃xs,v=.agg xs
 ·obtain⟨xs,rfl⟩:=ha
  obtain⟨xs',rfl,hl⟩:=h.toLR
  exact hl
 ·have hm:zby v=false:=by
   cases v <;> first | rfl | (exact absurd rfl (ht _)) | (exact absurd ⟨_,rfl⟩ ha)
  have e1:v.cells=#[v]:=by cases v <;> first | rfl | (simp[zby] at hm; done)
  have hm':=h.one hm
  have e2:v'.cells=#[v']:=by cases v' <;> first | rfl | (simp[Value.oneCell'] at hm'; done)
  rw[e1,e2]
  exact⟨h,hm,trivial⟩
end
def NF (m:Nat×Nat) (n:Nat):Prop:=m.1=m.2∨n≤m.1
theorem NF.at {m:Nat×Nat} {n:Nat} (k:NF m n) (o:Nat) (ho:o < n):(decide (m.1≤o) && decide (o < m.2))=false:=by
 rcases k with k | k
 ·simp; omega
 ·simp; omega
def ER (φ:Fi):List MapEntry→List MapEntry→Prop
 | [],[]=>True
 | x :: xs,y :: ys=>VR φ x.key y.key∧VR φ x.val y.val∧x.born=y.born∧ER φ xs ys
 | _,_=>False
section
variable (P:Program)
def zcM (φ:Fi) (e:Env) (a:Array Value):Prop:=∀i,VR φ ((e.get i).getD undef) (a.getD i undef)
def codeDst (n:Nat):Code→Bool
 | .skip | .exit _ | .label _ | .goto _ | .ret | .refuse _=>true
 | .region _ ops _=>ops.toList.all fun o=>match o.dst with | some d=>Nat.blt d n | none=>true
 | .seq a b=>codeDst n a && codeDst n b
 | .cond _ a b=>codeDst n a && codeDst n b
 | .block _ c=>codeDst n c
 | .loop c=>codeDst n c
 | .scope c=>codeDst n c
 | .rangeFunc _ ps a b=>ps.toList.all (fun d=>Nat.blt d n) && codeDst n a && codeDst n b
def OR (φ:Fi) (r:Rec):zb7→Obj→Prop
 | .cells cs e ro,.cells C e' m=>e'= e∧r.esz=P.cellsOf e∧C.size=r.total∧(∃pre mid post,C.toList=pre ++ mid ++ post∧pre.length=r.shift∧LR φ cs mid)∧(ro=false→NF m r.total)
 | .map es c,.map es' c'=>c'= c∧ER φ es es'.toList
 | .siter s p,.stringIter s' p'=>s'= s∧p'= p∧r.shift=0
 | .loop L,.loop L'=>zcM φ L.env L'.tmps∧L'.params.toList=L.params∧L'.assign=L.assign∧L'.body=L.body∧L'.pending=L.pending∧
    L'.state=(match L.state with | .ready=>.ready | .busy=>.busy | .done=>.done | .over=>.exhausted)∧codeDst L'.tmps.size L.assign=true∧codeDst L'.tmps.size L.body=true∧(∀d∈L.params,d < L'.tmps.size)
 | _,_=>False
def zb7.ro:zb7→Bool
 | .cells _ _ ro=>ro
 | _=>false
structure R (φ:Fi) (h:AH) (w:World):Prop where
 obj:∀b o r,h.get b=some o→φ b=some r→∃o',w.heap[r.blk]?= some o'∧OR P φ r o o'
 inj:∀b1 b2 o1 o2 r1 r2,h.get b1=some o1→h.get b2=some o2→φ b1=some r1→φ b2=some r2→r1.blk=r2.blk→b1=b2∨(o1.ro=true∧o2.ro=true)
 lt:∀b o,h.get b=some o→b < h.next
def Own (φ:Fi) (h:AH) (c:Nat):Prop:=∃b o r,h.get b=some o∧φ b=some r∧r.blk=c∧o.ro=false
def zdH (φ:Fi) (n m:Nat):Prop:=∀b,n≤b→b < m→φ b=none
structure Tn (φ:Fi) (h:AH) (w:World) (φ' : Fi) (h' : AH) (w' : World):Prop where
 le:Le φ φ'
 new:∀b,φ' b≠none→φ b≠none∨(h.next≤b∧b < h'.next)
 nle:h.next≤h'.next
 rel:R P φ' h' w'
 size:w.heap.size≤w'.heap.size
 os:w'.os=w.os
 tape:w'.tape=w.tape
 output:w'.output=w.output
 keep:∀c,c < w.heap.size→¬Own φ h c→w'.heap[c]?= w.heap[c]?
 old:∀b o r,h'.get b=some o→φ' b=some r→r.blk < w.heap.size→∃b0 o0 r0,h.get b0=some o0∧φ b0=some r0∧r0.blk=r.blk∧(o.ro=false→o0.ro=false)
end
section
variable {P:Program} {φ φ' φ2:Fi} {h h' h2:AH} {w w' w2:World}
theorem Tn.own (t:Tn P φ h w φ' h' w') (c:Nat) (hc:c < w.heap.size) (k:Own φ' h' c):Own φ h c:=by
 obtain⟨b,o,r,h1,h2,h3,h4⟩:=k
 obtain⟨b0,o0,r0,g1,g2,g3,g4⟩:=t.old b o r h1 h2 (by rw[h3]; exact hc)
 exact⟨b0,o0,r0,g1,g2,by rw[g3,h3],g4 h4⟩
theorem Tn.refl (r:R P φ h w):Tn P φ h w φ h w:=⟨Le.refl _,fun _ e=>.inl e,Nat.le_refl _,r,Nat.le_refl _,rfl,rfl,rfl,fun _ _ _=>rfl,fun b o r h1 h2 _=>⟨b,o,r,h1,h2,rfl,id⟩⟩
theorem Tn.trans (a:Tn P φ h w φ' h' w') (b:Tn P φ' h' w' φ2 h2 w2):Tn P φ h w φ2 h2 w2 where
 le:=a.le.trans b.le
 new:=fun c e=>by
  rcases b.new c e with k | k
  ·rcases a.new c k with k | k
   ·exact .inl k
   ·exact .inr ⟨k.1,Nat.lt_of_lt_of_le k.2 b.nle⟩
  ·exact .inr ⟨Nat.le_trans a.nle k.1,k.2⟩
 nle:=Nat.le_trans a.nle b.nle
 rel:=b.rel
 size:=Nat.le_trans a.size b.size
 os:=b.os.trans a.os
 tape:=b.tape.trans a.tape
 output:=b.output.trans a.output
 keep:=fun c hc ho=>by
  rw[b.keep c (Nat.lt_of_lt_of_le hc a.size) (fun k=>ho (a.own c hc k)),a.keep c hc ho]
 old:=fun c o r h1 h2 hc=>by
  obtain⟨c1,o1,r1,g1,g2,g3,g4⟩:=b.old c o r h1 h2 (Nat.lt_of_lt_of_le hc a.size)
  obtain⟨c0,o0,r0,k1,k2,k3,k4⟩:=a.old c1 o1 r1 g1 g2 (by rw[g3]; exact hc)
  exact⟨c0,o0,r0,k1,k2,k3.trans g3,fun q=>k4 (g4 q)⟩
theorem zdH.tn {N:Nat} (f:zdH φ h.next N) (t:Tn P φ h w φ' h' w'):zdH φ' h'.next N:=by
 intro b h1 h2
 cases e:φ' b with
 | none=>rfl
 | some r=>
   rcases t.new b (by simp[e]) with k | k
   ·exact absurd (f b (Nat.le_trans t.nle h1) h2) k
   ·omega
theorem zdH.mono {n m m' : Nat} (f:zdH φ n m) (hm:m'≤m):zdH φ n m':=fun b h1 h2=>f b h1 (Nat.lt_of_lt_of_le h2 hm)
theorem ER.mono {ψ:Fi} (h:Le φ ψ):∀{xs ys:List MapEntry},ER φ xs ys→ER ψ xs ys
 | [],[],_=>trivial
 | _ :: _,_ :: _,r=>⟨r.1.mono h,r.2.1.mono h,r.2.2.1,ER.mono h r.2.2.2⟩
theorem zcM.mono {ψ:Fi} (h:Le φ ψ) {e:Env} {a:Array Value} (r:zcM φ e a):zcM ψ e a:=fun i=>(r i).mono h
theorem OR.mono {ψ:Fi} (hl:Le φ ψ) {r:Rec} {o:zb7} {o' : Obj} (k:OR P φ r o o'):OR P ψ r o o':=by
 cases o <;> cases o' <;> simp only[OR] at k ⊢
 case cells.cells=>
  obtain⟨h1,h2,h3,⟨pre,mid,post,h4,h5,h6⟩,h7⟩:=k
  exact⟨h1,h2,h3,⟨pre,mid,post,h4,h5,h6.mono hl⟩,h7⟩
 case map.map=>exact⟨k.1,k.2.mono hl⟩
 case loop.loop=>exact⟨k.1.mono hl,k.2⟩
 case siter.stringIter=>exact k
theorem Tn.del (r:R P φ h w) (b:Nat):Tn P φ h w φ (h.del b) w where
 le:=Le.refl _
 new:=fun _ e=>.inl e
 nle:=Nat.le_refl _
 rel:=⟨fun c o q hc hq=>by
    rw[AH.get_del] at hc
    split at hc
    ·simp at hc
    ·exact r.obj c o q hc hq,
  fun c1 c2 o1 o2 q1 q2 h1 h2 k1 k2 e=>by
   rw[AH.get_del] at h1 h2
   split at h1 <;> split at h2 <;> first | (simp at h1; done) | (simp at h2; done) | exact r.inj c1 c2 o1 o2 q1 q2 h1 h2 k1 k2 e,
  fun c o hc=>by
   rw[AH.get_del] at hc
   split at hc
   ·simp at hc
   ·exact r.lt c o hc⟩
 size:=Nat.le_refl _
 os:=rfl
 tape:=rfl
 output:=rfl
 keep:=fun _ _ _=>rfl
 old:=fun b' o q h1 h2 _=>by
  rw[AH.get_del] at h1
  split at h1
  ·simp at h1
  ·exact⟨b',o,q,h1,h2,rfl,id⟩
theorem Tn.kill (r:R P φ h w) (v:Value):Tn P φ h w φ (zrN h v) w:=by
 unfold zrN
 split <;> first | exact Tn.del r _ | exact Tn.refl r
theorem R.drew (r:R P φ h w) (n:Nat):R P φ h { w with drawn:=w.drawn+n }:=⟨r.obj,r.inj,r.lt⟩
theorem Tn.alloc (r:R P φ h w) (o:zb7) (O:Obj) (rc:Rec) (hf:φ h.next=none) (hb:rc.blk=w.heap.size)
 (ho:∀ψ,Le φ ψ→ψ h.next=some rc→OR P ψ rc o O) (n:Nat):
 Tn P φ h w (fun b=>if b=h.next then some rc else φ b) (h.alloc o) { w with heap:=w.heap.push O,drawn:=w.drawn+n }:=by
 have hle:Le φ (fun b=>if b=h.next then some rc else φ b):=by
  intro b q e
  by_cases hb:b=h.next
  ·subst hb; rw[hf] at e; simp at e
  ·simp[hb,e]
 have hold:∀b o r',h.get b=some o→φ b=some r'→r'.blk < w.heap.size:=by
  intro b o r' h1 h2
  obtain⟨O',hO,_⟩:=r.obj b o r' h1 h2
  exact (Array.getElem?_eq_some_iff.1 hO).1
 refine⟨hle,?_,by simp,⟨?_,?_,?_⟩,by simp,rfl,rfl,rfl,?_,?_⟩
 ·intro b e
  by_cases hb:b=h.next
  ·exact .inr ⟨by omega,by simp[hb]⟩
  ·simp[hb] at e; exact .inl (by simpa using e)
 ·intro b o' r' h1 h2
  rw[AH.get_alloc] at h1
  by_cases hbn:b=h.next
  ·simp only[hbn,if_true] at h1 h2
   cases h1; cases h2
   exact⟨O,by simp[hb],ho _ hle (by simp)⟩
  ·simp only[hbn,if_false] at h1 h2
   obtain⟨O',hO,hr⟩:=r.obj b o' r' h1 h2
   have:=hold b o' r' h1 h2
   exact⟨O',by simp only[Array.getElem?_push]; rw[if_neg (by omega)]; exact hO,hr.mono hle⟩
 ·intro b1 b2 o1 o2 r1 r2 h1 h2 k1 k2 e
  rw[AH.get_alloc] at h1 h2
  by_cases e1:b1=h.next <;> by_cases e2:b2=h.next
  ·exact .inl (by omega)
  ·simp only[e1,e2,if_true,if_false] at h1 h2 k1 k2
   cases k1
   have:=hold b2 o2 r2 h2 k2
   omega
  ·simp only[e1,e2,if_true,if_false] at h1 h2 k1 k2
   cases k2
   have:=hold b1 o1 r1 h1 k1
   omega
  ·simp only[e1,e2,if_false] at h1 h2 k1 k2
   exact r.inj b1 b2 o1 o2 r1 r2 h1 h2 k1 k2 e
 ·intro b o' h1
  rw[AH.get_alloc] at h1
  split at h1
  ·subst_vars; simp
  ·have:=r.lt b o' h1; simp; omega
 ·intro c hc _
  simp only[Array.getElem?_push]
  rw[if_neg (by omega)]
 ·intro b o' r' h1 h2 hc
  rw[AH.get_alloc] at h1
  by_cases hbn:b=h.next
  ·simp only[hbn,if_true] at h1 h2
   cases h2
   omega
  ·simp only[hbn,if_false] at h1 h2
   exact⟨b,o',r',h1,h2,rfl,id⟩
theorem Tn.put (r:R P φ h w) {b:Nat} {o o2:zb7} {rc:Rec} (hb:h.get b=some o) (hφ:φ b=some rc) (hro:o.ro=false) {O2:Obj} (ho:OR P φ rc o2 O2) (n:Nat):
 Tn P φ h w φ (h.set b o2) { w with heap:=w.heap.setIfInBounds rc.blk O2,drawn:=w.drawn+n }:=by
 obtain⟨O,hO,_⟩:=r.obj b o rc hb hφ
 have hlt:rc.blk < w.heap.size:=(Array.getElem?_eq_some_iff.1 hO).1
 refine⟨Le.refl _,fun _ e=>.inl e,Nat.le_refl _,⟨?_,?_,?_⟩,by simp,rfl,rfl,rfl,?_,?_⟩
 ·intro c o' r' h1 h2
  rw[AH.get_set] at h1
  by_cases hc:c=b
  ·subst hc
   simp only[if_true] at h1
   cases h1
   rw[hφ] at h2
   cases h2
   exact⟨O2,by simp[hlt],ho⟩
  ·simp only[hc,if_false] at h1
   obtain⟨O',hO',hr⟩:=r.obj c o' r' h1 h2
   refine⟨O',?_,hr⟩
   rw[Array.getElem?_setIfInBounds_ne]
   ·exact hO'
   ·intro e
    rcases r.inj c b o' o r' rc h1 hb h2 hφ e.symm with q | q
    ·exact hc q
    ·rw[hro] at q; exact Bool.noConfusion q.2
 ·intro b1 b2 o1 o2' r1 r2 h1 h2 k1 k2 e
  rw[AH.get_set] at h1 h2
  by_cases hc1:b1=b <;> by_cases hc2:b2=b
  ·exact .inl (hc1.trans hc2.symm)
  ·rw[if_neg hc2] at h2
   subst hc1
   rcases r.inj b1 b2 o o2' r1 r2 hb h2 k1 k2 e with q | q
   ·exact .inl q
   ·rw[hro] at q; exact Bool.noConfusion q.1
  ·rw[if_neg hc1] at h1
   subst hc2
   rcases r.inj b1 b2 o1 o r1 r2 h1 hb k1 k2 e with q | q
   ·exact .inl q
   ·rw[hro] at q; exact Bool.noConfusion q.2
  ·rw[if_neg hc1] at h1
   rw[if_neg hc2] at h2
   exact r.inj b1 b2 _ _ r1 r2 h1 h2 k1 k2 e
 ·intro c o' h1
  rw[AH.get_set] at h1
  split at h1
  ·subst_vars; exact r.lt _ _ hb
  ·exact r.lt c o' h1
 ·intro c hc hno
  have:rc.blk≠c:=fun e=>hno ⟨b,o,rc,hb,hφ,e,hro⟩
  simp only[Array.getElem?_setIfInBounds_ne this]
 ·intro c' o' r' h1 h2 _
  rw[AH.get_set] at h1
  by_cases hcb:c'= b
  ·subst hcb
   rw[hφ] at h2
   cases h2
   exact⟨c',o,rc,hb,hφ,rfl,fun _=>hro⟩
  ·simp only[hcb,if_false] at h1
   exact⟨c',o',r',h1,h2,rfl,id⟩
end
set_option linter.unusedSimpArgs false
section
variable {P:Program} {φ φ' : Fi} {h h' : AH} {w w' : World}
theorem zeC (e:Env) (t:Tmp):ev e (.tmp t)=(e.get t).getD undef:=rfl
theorem VR.plain {v:Value} (h:ze9 v=true):VR φ v v:=by
 unfold ze9 at h
 split at h
 ·exact .bool _
 ·exact .int _ _
 ·exact .string _
 ·exact .ptrNil
 ·exact .sliceNil 0 0 (by decide)
 ·exact .mapNil
 ·exact .nilFunc
 ·exact .nilIface
 ·simp at h
theorem VR.eval {e:Env} {a:Array Value} (k:zcM φ e a) (x:Operand):VR φ (ev e x) (({ tmps:=a,defers:=[] }:Act).eval x):=by
 cases x with
 | tmp t=>exact k t
 | const v=>
   simp only[ev,Act.eval]
   cases hp:ze9 v with
   | false=>exact .junk _
   | true=>exact VR.plain hp
 | global g=>exact .junk _
 | func f=>exact .func (.func f) rfl rfl (by simp) (by simp)
theorem zfe {t:TypeId} {d:TypeDesc} (h:P.underlying t=some d):(P.info? t).isSome=true:=by
 unfold Program.underlying at h
 split at h <;> simp_all
theorem zad {t:TypeId} {d:TypeDesc} (h:P.underlying t=some d) (w:World):(underlying t).run P w=.ok d w:=by simp[underlying,h]
theorem zff {t:TypeId} {b:Bool} (h:zhB P t=some b) (w:World):(isAgg t).run P w=.ok b w:=by
 unfold zhB at h
 unfold isAgg
 cases hd:P.underlying t with
 | none=>simp[hd] at h
 | some d=>
   rw[hd] at h
   simp only[Sem.run_bind,zad hd,Result.andThen_ok]
   cases d <;> simp at h <;> subst h <;> simp
theorem zgD {t:TypeId} {b:Bool} (h:zhB P t=some b):(P.info? t).isSome=true:=by
 unfold zhB at h
 cases hd:P.underlying t with
 | none=>simp[hd] at h
 | some d=>exact zfe hd
theorem zaA {t:TypeId} (h:(P.info? t).isSome=true) (w:World):(sizeOf t).run P w=.ok (P.cellsOf t) w:=by
 obtain⟨i,hi⟩:=Option.isSome_iff_exists.1 h
 simp[sizeOf,typeInfo,hi,Program.cellsOf]
theorem zdo {t:TypeId} {i:TypeInfo} {z:Value} (hi:P.info? t=some i) (hz:i.zero=some z) (w:World):(zeroValue t).run P w=.ok z w:=by
 simp[zeroValue,typeInfo,hi,hz]
theorem zbi (b o n:Nat):(⟨b,o,none⟩:Addr).add n=⟨b,o+n,none⟩:=by unfold Addr.add; split <;> simp_all
theorem R.cells (r:R P φ h w) {b:Nat} {cs:List Value} {e:TypeId} {ro:Bool} {rc:Rec} (hb:h.get b=some (.cells cs e ro)) (hφ:φ b=some rc):
 ∃C m pre mid post,w.heap[rc.blk]?= some (.cells C e m)∧rc.esz=P.cellsOf e∧C.size=rc.total∧C.toList=pre ++ mid ++ post∧pre.length=rc.shift∧LR φ cs mid∧(ro=false→NF m rc.total):=by
 obtain⟨o',ho,hr⟩:=r.obj b _ rc hb hφ
 cases o' <;> simp only[OR] at hr
 case cells C e' m=>
  obtain⟨rfl,h1,h2,⟨pre,mid,post,h3,h4,h5⟩,h6⟩:=hr
  exact⟨C,m,pre,mid,post,ho,h1,h2,h3,h4,h5,h6⟩
theorem zze {C:Array Value} {pre mid post:List Value} {s:Nat} (hC:C.toList=pre ++ mid ++ post) (hs:pre.length=s) (i:Nat) (hi:i < mid.length):C[s+i]?= mid[i]?:=by
 rw[←Array.getElem?_toList,hC,List.append_assoc,List.getElem?_append_right (by omega),List.getElem?_append_left (by omega)]
 congr 1
 omega
theorem zo8 {b s:Nat} {C:Array Value} {e:TypeId} {m:Nat×Nat} {pre mid post:List Value} (ho:w.heap[b]?= some (.cells C e m)) (hC:C.toList=pre ++ mid ++ post) (hs:pre.length=s)
 (i:Nat) (hi:i < mid.length):w.cell? ⟨b,s+i,none⟩=mid[i]?:=by
 simp only[World.cell?,ho]
 exact zze hC hs i hi
theorem zdp {b s off n:Nat} {C:Array Value} {e:TypeId} {m:Nat×Nat} {pre mid post:List Value} (ho:w.heap[b]?= some (.cells C e m)) (hC:C.toList=pre ++ mid ++ post) (hs:pre.length=s)
 (hn:off+n≤mid.length):(loadCells ⟨b,s+off,none⟩ n).run P w=.ok ((mid.drop off).take n).toArray w:=by
 have hl:((mid.drop off).take n).length=n:=by simp; omega
 have:=run_loadCells_list (P:=P) (w:=w) ⟨b,s+off,none⟩ ((mid.drop off).take n) (fun j v hj=>by
  have hj' : j < n:=by rcases Nat.lt_or_ge j n with k | k; exact k; (rw[List.getElem?_eq_none (by omega)] at hj; simp at hj)
  rw[zbi,Nat.add_assoc,zo8 ho hC hs (off+j) (by omega)]
  rw[List.getElem?_take,if_pos hj',List.getElem?_drop] at hj
  exact hj)
 rw[hl] at this
 exact this
theorem zjv (r:R P φ h w) {t:TypeId} {v v' u:Value} (hl:zfQ P h t v=some u) (hv:VR φ v v'):
 ∃u',(Instr.loadAt t v').run P w=.ok u' w∧VR φ u u':=by
 unfold zfQ at hl
 split at hl
 ·rename_i b off
  split at hl
  ·rename_i cs e ro hb
   cases hv with
   | ptr hφ=>
     rename_i rc
     obtain⟨C,m,pre,mid,post,ho,_,_,hC,hs,hlr,_⟩:=r.cells hb hφ
     have hlen:=hlr.length
     split at hl
     ·rename_i hag
      split at hl
      ·rename_i hle
       simp only[Option.some.injEq] at hl
       subst hl
       refine⟨.agg ((mid.drop off).take (P.cellsOf t)).toArray,?_,?_⟩
       ·simp[Instr.loadAt,Instr.sureAddr,loadVar,zff hag,zaA (zgD hag),zdp ho hC hs (show off+P.cellsOf t≤mid.length by omega)]
       ·exact LR.agg (by simpa using (hlr.drop off).take (P.cellsOf t))
      ·simp at hl
     ·rename_i hag
      obtain⟨hm,u',hu',hr⟩:=hlr.at off u hl
      refine⟨u',?_,hr⟩
      have hoff:off < mid.length:=by
       rcases Nat.lt_or_ge off mid.length with k | k
       ·exact k
       ·rw[List.getElem?_eq_none k] at hu'; simp at hu'
      simp[Instr.loadAt,Instr.sureAddr,loadVar,zff hag,zo8 ho hC hs off hoff,hu']
     ·simp at hl
  ·simp at hl
 ·simp at hl
theorem zc1 (g o:Nat) (t:TypeId) (m:Nat×Nat):∀(vs:List Value) (i:Nat) (cur:Array Value) (w:World),w.heap[g]?= some (.cells cur t m)→NF m cur.size→o+i+vs.length≤cur.size→(∀v∈vs,v.oneCell'= true)→
 (storeCells ⟨g,o,none⟩ vs i).run P w=.ok () (w.setRow g (cur.toList.take (o+i) ++ vs ++ cur.toList.drop (o+i+vs.length)).toArray)
 | [],i,cur,w,hg,_,_,_=>by
   simp only[storeCells,List.append_nil,List.length_nil,Nat.add_zero,List.take_append_drop,Array.toArray_toList]
   rw[setRow_self w g cur t m hg]
   rfl
 | v :: rest,i,cur,w,hg,hf,hl,h1=>by
   have hi:o+i < cur.size:=by simp at hl; omega
   have hadd:(⟨g,o,none⟩:Addr).add i=⟨g,o+i,none⟩:=zbi g o i
   have hcell:w.cell? ⟨g,o+i,none⟩=some cur[o+i]:=by simp[World.cell?,hg,hi]
   have hfro:w.frozen? ⟨g,o+i,none⟩=false:=by
    have:=hf.at (o+i) hi
    simp only[World.frozen?,hg]
    exact this
   have hst:(store ((⟨g,o,none⟩:Addr).add i) v).run P w=.ok () (w.setRow g (cur.setIfInBounds (o+i) v)):=by
    rw[hadd,run_store P w _ v _ (h1 v (by simp)),hcell]
    simp[hfro,setCell_eq_setRow w g (o+i) cur t m v hg]
   have ih:=zc1 g o t m rest (i+1) (cur.setIfInBounds (o+i) v) (w.setRow g (cur.setIfInBounds (o+i) v)) (setRow_heap w g cur _ t _ hg) (by simpa using hf) (by simp at hl ⊢; omega) (fun x hx=>h1 x (by simp[hx]))
   simp only[storeCells,Sem.run_bind,hst,Result.andThen_ok,ih,setRow_setRow]
   congr 3
   have e:=list_seg_step cur.toList (o+i) v rest (by simp at hl ⊢; omega)
   simpa[Array.toList_setIfInBounds,Nat.add_assoc] using e
theorem zhI {g:Nat} {cur cs:Array Value} {t:TypeId} {m:Nat×Nat} (hg:w.heap[g]?= some (.cells cur t m)):w.setRow g cs={ w with heap:=w.heap.setIfInBounds g (.cells cs t m),drawn:=w.drawn+0 }:=by
 have hlt:g < w.heap.size:=(Array.getElem?_eq_some_iff.1 hg).1
 have hv:w.heap[g]=.cells cur t m:=(Array.getElem?_eq_some_iff.1 hg).2
 unfold World.setRow
 congr 1
 apply Array.ext_getElem?
 intro k
 rw[Array.getElem?_modify,Array.getElem?_setIfInBounds]
 by_cases hk:g=k
 ·subst hk; simp[hlt,hv]
 ·simp[hk]
theorem zbV (r:R P φ h w) {b off:Nat} {vs ws:List Value} {h' : AH} {rc:Rec} (hs:zas h b off vs=some h') (hφ:φ b=some rc) (hl:LR φ vs ws):
 ∃w',(storeCells ⟨rc.blk,rc.shift+off,none⟩ ws).run P w=.ok () w'∧Tn P φ h w φ h' w':=by
 unfold zas at hs
 split at hs
 ·rename_i cs e hb
  split at hs
  ·rename_i hle
   simp only[Option.some.injEq] at hs
   subst hs
   obtain⟨C,m,pre,mid,post,ho,hes,htot,hC,hsh,hlr,hnf⟩:=r.cells hb hφ
   have hlen:=hlr.length
   have hlen2:=hl.length
   have hsz:C.size=pre.length+mid.length+post.length:=by rw[←Array.length_toList,hC]; simp; omega
   have hrun:=zc1 (P:=P) rc.blk (rc.shift+off) e m ws 0 C w ho (by rw[htot]; exact hnf rfl) (by omega) hl.one
   have hrow:(C.toList.take (rc.shift+off+0) ++ ws ++ C.toList.drop (rc.shift+off+0+ws.length)).toArray=(pre ++ (mid.take off ++ ws ++ mid.drop (off+ws.length)) ++ post).toArray:=by
    congr 1
    rw[hC,Nat.add_zero]
    have e1:(pre ++ mid ++ post).take (rc.shift+off)=pre ++ mid.take off:=by
     rw[List.append_assoc,List.take_append,List.take_of_length_le (by omega),List.take_append]
     have:rc.shift+off - pre.length - mid.length=0:=by omega
     rw[this,List.take_zero,List.append_nil]
     congr 2
     omega
    have e2:(pre ++ mid ++ post).drop (rc.shift+off+ws.length)=mid.drop (off+ws.length) ++ post:=by
     rw[List.append_assoc,List.drop_append,List.drop_of_length_le (by omega),List.nil_append,List.drop_append]
     have:rc.shift+off+ws.length - pre.length - mid.length=0:=by omega
     rw[this,List.drop_zero]
     congr 2
     omega
    rw[e1,e2]
    simp[List.append_assoc]
   rw[hrow,zhI ho] at hrun
   refine⟨_,hrun,?_⟩
   refine Tn.put r hb hφ rfl ?_ 0
   refine⟨rfl,hes,?_,⟨pre,mid.take off ++ ws ++ mid.drop (off+ws.length),post,rfl,hsh,?_⟩,fun _=>hnf rfl⟩
   ·simp; omega
   ·rw[←hlen2]
    exact ((hlr.take off).append hl).append (hlr.drop _)
  ·simp at hs
 ·simp at hs
theorem znB (r:R P φ h w) {t:TypeId} {a a' v v' : Value} {h' : AH} (hs:zcc P h t a v=some h') (ha:VR φ a a') (hv:VR φ v v'):
 ∃w',(Instr.storeAt t a' v').run P w=.ok () w'∧Tn P φ h w φ h' w':=by
 unfold zcc at hs
 split at hs
 ·simp at hs
 ·rename_i b off hnt
  split at hs
  ·rename_i hsz
   cases ha with
   | ptr hφ=>
     rename_i rc
     have hlr:=hv.cells (fun xs e=>hnt xs e)
     obtain⟨w',hw,ht⟩:=zbV r hs hφ hlr
     refine⟨w',?_,ht⟩
     have hl:=hlr.length
     simp only[Array.length_toList] at hl
     simp[Instr.storeAt,Instr.sureAddr,storeVar,zaA hsz.2,←hl,hsz.1,hw]
  ·simp at hs
 ·simp at hs
theorem zhJ {s:TypeId} {x x' u:Value} {f:Nat} (hs:zb2 P s x f=some u) (hx:VR φ x x') (w:World):
 ∃u',(Instr.fieldAt s x' f).run P w=.ok u' w∧VR φ u u':=by
 unfold zb2 at hs
 split at hs
 ·rename_i fs hu
  split at hs
  ·rename_i fd b off hf
   split at hs
   ·simp at hs
   ·rename_i hz
    simp only[Option.some.injEq] at hs
    subst hs
    have hinfo:(P.info? fd.type).isSome=true:=by
     unfold Program.cellsOf at hz
     cases hq:P.info? fd.type with
     | none=>rw[hq] at hz; simp at hz
     | some i=>rfl
    cases hx with
    | ptr hφ=>
      refine⟨_,?_,.ptr hφ⟩
      simp[Instr.fieldAt,zad hu,hf,Instr.sureAddr,fieldPlace,zaA hinfo,hz,zbi,Nat.add_assoc]
  ·simp at hs
 ·simp at hs
theorem zhK {t:TypeId} {x x' i i' u:Value} (hs:za4 P t x i=some u) (hx:VR φ x x') (hi:VR φ i i') (w:World):
 ∃u',(Instr.indexAt t x' i').run P w=.ok u' w∧VR φ u u':=by
 unfold za4 at hs
 split at hs
 ·rename_i n elem b off k j hu
  split at hs
  ·rename_i hc
   simp only[Option.some.injEq] at hs
   subst hs
   cases hi
   cases hx with
   | ptr hφ=>
     refine⟨_,?_,.ptr hφ⟩
     simp[Instr.indexAt,asIntOf,zad hu,Instr.sureAddr,hc.1,hc.2.1,zaA hc.2.2,zbi,Nat.add_assoc]
  ·simp at hs
 ·rename_i elem b off n c k j hu
  split at hs
  ·rename_i hc
   simp only[Option.some.injEq] at hs
   subst hs
   cases hi
   cases hx with
   | slice hφ _=>
     refine⟨_,?_,.ptr hφ⟩
     simp[Instr.indexAt,asIntOf,zad hu,hc.1,hc.2.1,zaA hc.2.2,zbi,Nat.add_assoc]
   | sliceO hφ _ _ _=>
     refine⟨_,?_,.ptr hφ⟩
     simp[Instr.indexAt,asIntOf,zad hu,hc.1,hc.2.1,zaA hc.2.2,zbi,Nat.add_assoc]
   | sliceE hφ=>exact absurd hc.2.1 (by omega)
  ·simp at hs
 ·simp at hs
theorem zgE (cs:Array Value) (a b:Nat):(cs.extract a b).toList=(cs.toList.drop a).take (b - a):=by
 simp[Array.toList_extract,List.extract_eq_take_drop]
theorem zjw {t:TypeId} {cs cs' : Array Value} {off:Nat} {u:Value} (hs:zhC P t cs off=some u) (hc:LR φ cs.toList cs'.toList) (w:World):
 ∃u',(part t cs' off).run P w=.ok u' w∧VR φ u u':=by
 unfold zhC at hs
 split at hs
 ·rename_i hag
  simp only[Option.some.injEq] at hs
  subst hs
  refine⟨.agg (cs'.extract off (off+P.cellsOf t)),by simp[part,zff hag,zaA (zgD hag)],LR.agg ?_⟩
  rw[zgE,zgE]
  exact (hc.drop off).take _
 ·rename_i hag
  obtain⟨_,u',hu',hr⟩:=hc.at off u (by simpa using hs)
  refine⟨u',?_,hr⟩
  have:cs'[off]?= some u':=by simpa using hu'
  simp[part,zff hag,this]
 ·simp at hs
theorem znC {t:TypeId} {x x' i i' u:Value} (hs:zhD P t x i=some u) (hx:VR φ x x') (hi:VR φ i i') (w:World):
 ∃u',(Instr.index t x' i').run P w=.ok u' w∧VR φ u u':=by
 unfold zhD at hs
 split at hs
 ·rename_i n elem cs k j hu
  split at hs
  ·rename_i hc
   cases hi
   obtain⟨cs',rfl,hl⟩:=hx.toLR
   obtain⟨u',h1,h2⟩:=zjw hs hl w
   exact⟨u',by simp[Instr.index,asIntOf,zad hu,hc.1,hc.2.1,zaA hc.2.2,h1],h2⟩
  ·simp at hs
 ·rename_i s k j hu
  split at hs
  ·rename_i hc
   cases hi
   cases hx
   cases hb:s[j.toNat]? with
   | none=>simp[hb] at hs
   | some c=>
     simp[hb] at hs
     subst hs
     exact⟨_,by simp[Instr.index,asIntOf,zad hu,hc,hb],.int _ _⟩
  ·simp at hs
 ·simp at hs
theorem znD {t:TypeId} {x x' u:Value} {f:Nat} (hs:zly P t x f=some u) (hx:VR φ x x') (w:World):
 ∃u',(Instr.field t x' f).run P w=.ok u' w∧VR φ u u':=by
 unfold zly at hs
 split at hs
 ·rename_i fs cs hu
  split at hs
  ·rename_i fd hf
   obtain⟨cs',rfl,hl⟩:=hx.toLR
   obtain⟨u',h1,h2⟩:=zjw hs hl w
   exact⟨u',by simp[Instr.field,zad hu,hf,asAgg,h1],h2⟩
  ·simp at hs
 ·simp at hs
end
section
variable {P:Program} {φ φ' : Fi} {h h' : AH} {w w' : World}
inductive zfT (φ:Fi):Option Value→Option Value→Prop
 | none:zfT φ none none
 | some {v v' : Value} (h:VR φ v v'):zfT φ (some v) (some v')
theorem zfT.map {e:Env} {a:Array Value} (k:zcM φ e a) (x:Option Operand):zfT φ (x.map (ev e)) (x.map (({ tmps:=a,defers:=[] }:Act).eval)):=by
 cases x with
 | none=>exact .none
 | some x=>exact .some (VR.eval k x)
theorem zc6 {v v' : Value} {y y' n:Nat} (hb:zbz v y=some n) (hv:VR φ v v') (hy:y≤y') (code:BoundsCode) (w:World):(Instr.sliceBound v' y' code).run P w=.ok n w:=by
 unfold zbz at hb
 split at hb
 ·rename_i k i
  split at hb
  ·rename_i hc
   simp only[Option.some.injEq] at hb
   subst hb
   cases hv
   have:0≤i∧i≤(y' : Int):=⟨hc.1,by omega⟩
   simp[Instr.sliceBound,asIntOf,this]
  ·simp at hb
 ·simp at hb
theorem zec {v:Value} {y n:Nat} (hb:zbz v y=some n):n≤y:=by
 unfold zbz at hb
 split at hb
 ·split at hb
  ·simp only[Option.some.injEq] at hb; omega
  ·simp at hb
 ·simp at hb
theorem zb3 {lo lo' hi hi' mx mx' : Option Value} {len c0 cap l hh m:Nat} (hb:aBounds len c0 lo hi mx=some (l,hh,m)) (h1:zfT φ lo lo') (h2:zfT φ hi hi') (h3:zfT φ mx mx') (hc:c0≤cap) (sl:Bool) (w:World):
 (Instr.sliceBounds sl len cap lo' hi' mx').run P w=.ok (l,hh,if mx.isNone then cap else m) w∧l≤hh∧(mx=none→m=c0)∧m≤c0∧(hi.isSome∨mx.isSome→hh≤m)∧(hi=none→mx=none→hh=len):=by
 unfold aBounds at hb
 cases h3 with
 | none=>
   simp only at hb
   cases h2 with
   | none=>
     simp only at hb
     cases h1 with
     | none=>
       simp only[Option.some.injEq,Prod.mk.injEq] at hb
       obtain⟨rfl,rfl,rfl⟩:=hb
       simp[Instr.sliceBounds]
     | some hv=>
       rename_i v v'
       cases e:zbz v len with
       | none=>simp[e] at hb
       | some n=>
         simp only[e,Option.some.injEq,Prod.mk.injEq] at hb
         obtain⟨rfl,rfl,rfl⟩:=hb
         refine⟨?_,zec e,fun _=>rfl,Nat.le_refl _,by simp,by simp⟩
         simp[Instr.sliceBounds,zc6 e hv (Nat.le_refl _)]
   | some hv2=>
     rename_i v2 v2'
     cases e2:zbz v2 c0 with
     | none=>simp[e2] at hb
     | some n2=>
       simp only[e2] at hb
       have r2:=fun code w=>zc6 (P:=P) e2 hv2 hc code w
       have l2:=zec e2
       cases h1 with
       | none=>
         simp only[Option.some.injEq,Prod.mk.injEq] at hb
         obtain⟨rfl,rfl,rfl⟩:=hb
         refine⟨?_,Nat.zero_le _,fun _=>rfl,Nat.le_refl _,fun _=>l2,by simp⟩
         simp[Instr.sliceBounds,r2]
       | some hv=>
         rename_i v v'
         cases e:zbz v n2 with
         | none=>simp[e] at hb
         | some n=>
           simp only[e,Option.some.injEq,Prod.mk.injEq] at hb
           obtain⟨rfl,rfl,rfl⟩:=hb
           refine⟨?_,zec e,fun _=>rfl,Nat.le_refl _,fun _=>l2,by simp⟩
           simp[Instr.sliceBounds,r2,zc6 e hv (Nat.le_refl _)]
 | some hv3=>
   rename_i v3 v3'
   simp only at hb
   cases e3:zbz v3 c0 with
   | none=>simp[e3] at hb
   | some m3=>
     simp only[e3] at hb
     have r3:=fun code w=>zc6 (P:=P) e3 hv3 hc code w
     have l3:=zec e3
     cases h2 with
     | none=>simp at hb
     | some hv2=>
       rename_i v2 v2'
       simp only at hb
       cases e2:zbz v2 m3 with
       | none=>simp[e2] at hb
       | some n2=>
         simp only[e2] at hb
         have r2:=fun code w=>zc6 (P:=P) e2 hv2 (Nat.le_refl _) code w
         have l2:=zec e2
         cases h1 with
         | none=>
           simp only[Option.some.injEq,Prod.mk.injEq] at hb
           obtain⟨rfl,rfl,rfl⟩:=hb
           refine⟨?_,Nat.zero_le _,by simp,l3,fun _=>l2,by simp⟩
           simp[Instr.sliceBounds,r2,r3]
         | some hv=>
           rename_i v v'
           cases e:zbz v n2 with
           | none=>simp[e] at hb
           | some n=>
             simp only[e,Option.some.injEq,Prod.mk.injEq] at hb
             obtain⟨rfl,rfl,rfl⟩:=hb
             refine⟨?_,zec e,by simp,l3,fun _=>l2,by simp⟩
             simp[Instr.sliceBounds,r2,r3,zc6 e hv (Nat.le_refl _)]
theorem znE (r:R P φ h w) {t:TypeId} {x x' u:Value} {lo lo' hi hi' mx mx' : Option Value} (hs:zar P h t x lo hi mx=some u) (hx:VR φ x x') (h1:zfT φ lo lo') (h2:zfT φ hi hi') (h3:zfT φ mx mx'):
 ∃u',(Instr.sliceAt t x' lo' hi' mx').run P w=.ok u' w∧VR φ u u':=by
 unfold zar at hs
 split at hs
 ·rename_i n elem b off hu
  split at hs
  ·rename_i l hh m hb
   split at hs
   ·rename_i hi2
    simp only[Option.some.injEq] at hs
    subst hs
    obtain⟨hr,hle,hm1,hm2,hm3,hm4⟩:=zb3 (P:=P) hb h1 h2 h3 (Nat.le_refl _) false w
    have hm:(if mx.isNone then n else m)=m:=by
     cases mx with
     | none=>simp[hm1 rfl]
     | some _=>simp
    rw[hm] at hr
    cases hx with
    | ptr hφ=>
      rename_i rc
      refine⟨.slice (some ⟨rc.blk,rc.shift+(if m=l then off else off+l * P.cellsOf elem),none⟩) (hh - l) (m - l),?_,.slice hφ (by have:=hi2.2; omega)⟩
      simp only[Instr.sliceAt,Sem.run_bind,zad hu,Result.andThen_ok,Instr.sureAddr,Sem.run_pure,hr,zaA hi2.1]
      split <;> simp[zbi,Nat.add_assoc]
   ·simp at hs
  ·simp at hs
 ·rename_i arr b off hu
  split at hs
  ·rename_i n elem hu2
   split at hs
   ·rename_i l hh m hb
    split at hs
    ·rename_i hi2
     simp only[Option.some.injEq] at hs
     subst hs
     obtain⟨hr,hle,hm1,hm2,hm3,hm4⟩:=zb3 (P:=P) hb h1 h2 h3 (Nat.le_refl _) false w
     have hm:(if mx.isNone then n else m)=m:=by
      cases mx with
      | none=>simp[hm1 rfl]
      | some _=>simp
     rw[hm] at hr
     cases hx with
     | ptr hφ=>
       rename_i rc
       refine⟨.slice (some ⟨rc.blk,rc.shift+(if m=l then off else off+l * P.cellsOf elem),none⟩) (hh - l) (m - l),?_,.slice hφ (by have:=hi2.2; omega)⟩
       simp only[Instr.sliceAt,Instr.slice,Sem.run_bind,zad hu,zad hu2,Result.andThen_ok,asAddr,Sem.run_pure,hr,zaA hi2.1]
       split <;> simp[zbi,Nat.add_assoc]
    ·simp at hs
   ·simp at hs
  ·simp at hs
 ·rename_i s hu
  split at hs
  ·rename_i l hh m hb
   simp only[Option.some.injEq] at hs
   subst hs
   cases hx
   cases h3
   obtain⟨hr,_⟩:=zb3 (P:=P) hb h1 h2 .none (Nat.le_refl _) false w
   refine⟨_,?_,.string _⟩
   simp only[Instr.sliceAt,Instr.slice,Sem.run_bind,zad hu,Result.andThen_ok,Option.isSome_none,Bool.false_eq_true,if_false,Sem.run_pure,hr]
  ·simp at hs
 ·rename_i elem len cap hu
  split at hs
  ·rename_i l hh m hb
   split at hs
   ·rename_i hi2
    simp only[Option.some.injEq] at hs
    subst hs
    cases hx
    obtain⟨hr,hle,hm1,hm2,hm3,hm4⟩:=zb3 (P:=P) hb h1 h2 h3 (Nat.le_refl _) true w
    have hm:(if mx.isNone then cap else m)=m:=by
     cases mx with
     | none=>simp[hm1 rfl]
     | some _=>simp
    rw[hm] at hr
    refine⟨.slice none (hh - l) (m - l),?_,.sliceNil _ _ (by omega)⟩
    simp only[Instr.sliceAt,Instr.slice,Sem.run_bind,zad hu,Result.andThen_ok,Sem.run_pure,hr,zaA hi2.1]
    split <;> simp
   ·simp at hs
  ·simp at hs
 ·rename_i elem b off len cap hu
  split at hs
  ·rename_i hi2
   split at hs
   ·rename_i hcap
    subst hcap
    split at hs
    ·rename_i l hh m cs0 e ro hb hg
     split at hs
     ·split at hs
      ·rename_i hsz
       simp only[Option.some.injEq] at hs
       subst hs
       cases h3
       cases hx with
       | slice hφ hc=>exact absurd hc (by simp[zak])
       | sliceO hφ hc hn ht=>
         rename_i c' rc
         obtain⟨hr,hle,hm1,hm2,hm3,hm4⟩:=zb3 (P:=P) hb h1 h2 .none hn true w
         simp only[Option.isNone_none,if_true] at hr
         obtain⟨C,m',pre,mid,post,ho,hes,htot,hC,hsh,hlr,hnf⟩:=r.cells hg hφ
         have hhl:hh≤len:=by
          cases hi with
          | none=>rw[hm4 rfl rfl]; exact Nat.le_refl _
          | some _=>exact Nat.le_trans (hm3 (by simp)) hm2
         by_cases hcl:c'= l
         ·refine⟨.slice (some ⟨rc.blk,rc.shift+off,none⟩) 0 0,?_,?_⟩
          ·subst hcl
           simp only[Instr.sliceAt,Instr.slice,Sem.run_bind,zad hu,Result.andThen_ok,Sem.run_pure,hr,zaA hi2,if_true]
           have:hh - c'= 0:=by omega
           simp[this]
          ·have:hh - l=0:=by omega
           rw[this]
           exact .sliceE hφ (.inl rfl)
         ·refine⟨.slice (some ⟨rc.blk,rc.shift+(off+l * P.cellsOf elem),none⟩) (hh - l) (c' - l),?_,.sliceO hφ (by omega) (by omega) ?_⟩
          ·simp only[Instr.sliceAt,Instr.slice,Sem.run_bind,zad hu,Result.andThen_ok,Sem.run_pure,hr,zaA hi2,hcl,if_false]
           simp[zbi,Nat.add_assoc]
          ·rw[hes,hsz] at ht ⊢
           have hlc:l≤c':=by omega
           have:(c' - l) * P.cellsOf elem+l * P.cellsOf elem=c' * P.cellsOf elem:=by rw[←Nat.add_mul]; congr 1; omega
           omega
       | sliceE hφ ha'=>
         rename_i a' rc
         obtain⟨hr,hle,hm1,hm2,hm3,hm4⟩:=zb3 (P:=P) (cap:=0) hb h1 h2 .none (Nat.le_refl _) true w
         simp only[Option.isNone_none,if_true] at hr
         have hhl:hh≤0:=by
          cases hi with
          | none=>rw[hm4 rfl rfl]; exact Nat.le_refl _
          | some _=>exact Nat.le_trans (hm3 (by simp)) hm2
         have hl0:l=0:=by omega
         have hh0:hh=0:=by omega
         subst hl0 hh0
         refine⟨.slice (some a') 0 0,?_,.sliceE hφ ha'⟩
         simp[Instr.sliceAt,Instr.slice,zad hu,hr,zaA hi2]
      ·simp at hs
     ·split at hs
      ·rename_i v0 hlen
       simp only[Option.some.injEq] at hs
       subst hs
       cases hx with
       | slice hφ hc=>exact absurd hc (by simp[zak])
       | sliceO hφ hc hn ht=>
         rename_i c' rc
         obtain⟨hr,hle,hm1,hm2,hm3,hm4⟩:=zb3 (P:=P) hb h1 h2 h3 hn true w
         simp only[Option.isNone_some,Bool.false_eq_true,if_false] at hr
         refine⟨.slice (some ⟨rc.blk,rc.shift+(if m=l then off else off+l * P.cellsOf elem),none⟩) (hh - l) (m - l),?_,.slice hφ (by omega)⟩
         simp only[Instr.sliceAt,Instr.slice,Sem.run_bind,zad hu,Result.andThen_ok,Sem.run_pure,hr,zaA hi2]
         split <;> simp[zbi,Nat.add_assoc]
       | sliceE hφ=>omega
      ·simp at hs
    ·simp at hs
   ·split at hs
    ·rename_i hncap hcap
     split at hs
     ·rename_i l hh m hb
      simp only[Option.some.injEq] at hs
      subst hs
      cases hx with
      | sliceO hφ hc hn ht=>omega
      | sliceE hφ=>omega
      | slice hφ hc=>
        rename_i rc
        obtain⟨hr,hle,hm1,hm2,hm3,hm4⟩:=zb3 (P:=P) hb h1 h2 h3 (Nat.le_refl _) true w
        have hm:(if mx.isNone then cap else m)=m:=by
         cases mx with
         | none=>simp[hm1 rfl]
         | some _=>simp
        rw[hm] at hr
        refine⟨.slice (some ⟨rc.blk,rc.shift+(if m=l then off else off+l * P.cellsOf elem),none⟩) (hh - l) (m - l),?_,.slice hφ (by omega)⟩
        simp only[Instr.sliceAt,Instr.slice,Sem.run_bind,zad hu,Result.andThen_ok,Sem.run_pure,hr,zaA hi2]
        split <;> simp[zbi,Nat.add_assoc]
     ·simp at hs
    ·simp at hs
  ·simp at hs
 ·simp at hs
theorem zo9 {x x' : Value} {n:Nat} (hx:VR φ x x') (hn:zlx x=some n) (w:World):(Builtin.lenOf x').run P w=.ok n w:=by
 cases hx <;> simp[zlx] at hn <;> subst hn <;> simp[Builtin.lenOf]
theorem zki (φ:Fi):∀(l:List UInt8),LR φ (l.map fun b=>.int .u8 b.toNat) (l.map fun b=>.int .u8 b.toNat)
 | []=>trivial
 | b :: l=>⟨.int _ _,rfl,zki φ l⟩
theorem zc7 (r:R P φ h w) {size n:Nat} {x x' : Value} {cs:List Value} (hx:VR φ x x') (hc:firstC h size n x=some cs):
 ∃ds,LR φ cs ds∧∀w2:World,w2.heap=w.heap→(Builtin.firstCells size n x').run P w2=.ok ds.toArray w2:=by
 unfold firstC at hc
 split at hc
 ·rename_i b off len cap
  have hz:∀a:Addr,n * size=0→∀w2:World,(loadCells a (n * size)).run P w2=.ok #[] w2:=by
   intro a e w2; rw[e]; rfl
  split at hc
  ·rename_i e
   simp only[Option.some.injEq] at hc
   subst hc
   refine⟨[],trivial,fun w2 _=>?_⟩
   cases hx <;> (simp only[Builtin.firstCells]; exact hz _ e w2)
  ·rename_i e
   split at hc
   ·rename_i cs0 e0 ro hb
    split at hc
    ·rename_i hle
     simp only[Option.some.injEq] at hc
     subst hc
     have key:∀rc,φ b=some rc→∃ds,LR φ ((cs0.drop off).take (n * size)) ds∧∀w2:World,w2.heap=w.heap→(loadCells ⟨rc.blk,rc.shift+off,none⟩ (n * size)).run P w2=.ok ds.toArray w2:=by
      intro rc hφ
      obtain⟨C,m,pre,mid,post,ho,_,_,hC,hs,hlr,_⟩:=r.cells hb hφ
      have hlen:=hlr.length
      exact⟨_,(hlr.drop off).take _,fun w2 h2=>zdp (by rw[h2]; exact ho) hC hs (by omega)⟩
     cases hx with
     | slice hφ _=>exact key _ hφ
     | sliceO hφ _ _ _=>exact key _ hφ
     | sliceE hφ=>rw[show n=0 by omega] at e; simp at e
    ·simp at hc
   ·simp at hc
 ·simp only[Option.some.injEq] at hc
  subst hc
  cases hx
  exact⟨[],trivial,fun w2 _=>by simp[Builtin.firstCells]⟩
 ·simp only[Option.some.injEq] at hc
  subst hc
  cases hx
  refine⟨_,zki φ _,fun w2 _=>?_⟩
  simp[Builtin.firstCells]
  apply Array.ext'
  simp[Array.toList_extract,List.extract_eq_take_drop]
 ·simp at hc
end
section
variable {P:Program} {φ φ' : Fi} {h h' : AH} {w w' : World}
def zfO (P:Program) (φ:Fi) (h:AH) (w:World) (S:Sem Value) (v:Value) (h' : AH):Prop:=
 ∃φ' v' w',S.run P w=.ok v' w'∧VR φ' v v'∧Tn P φ h w φ' h' w'
theorem zbA (r:R P φ h w) {e:TypeId} {cs ds:List Value} {C:Array Value} (hf:φ h.next=none) (hl:LR φ cs ds) (hC:∃post,C.toList=ds ++ post) (n:Nat):
 ∃φ',φ' h.next=some ⟨w.heap.size,0,C.size,P.cellsOf e⟩∧Tn P φ h w φ' (h.alloc (.cells cs e false)) { w with heap:=w.heap.push (.cells C e),drawn:=w.drawn+n }:=by
 refine⟨fun b=>if b=h.next then some ⟨w.heap.size,0,C.size,P.cellsOf e⟩ else φ b,by simp,?_⟩
 refine Tn.alloc r _ _ _ hf rfl ?_ n
 intro ψ hle hψ
 obtain⟨post,hp⟩:=hC
 refine⟨rfl,rfl,rfl,⟨[],ds,post,by simp[hp],rfl,hl.mono hle⟩,fun _=>.inl rfl⟩
theorem zrO (r:R P φ h w) {t:TypeId} {x x' : Value} (hf:φ h.next=none) (hx:VR φ x x') (ht:∀xs,x≠.tuple xs):
 zfO P φ h w (Instr.box t x') (ptr h.next 0) (h.alloc (.cells x.cells.toList t false)):=by
 obtain⟨φ',h1,h2⟩:=zbA (P:=P) (e:=t) (C:=x'.cells) r hf (hx.cells ht) ⟨[],by simp⟩ 0
 refine⟨φ',_,_,?_,.ptr h1,h2⟩
 simp[Instr.box,newVar,newRow]
def zpa (z:Value):Bool:=match z with | .tuple _=>true | z=>z.cells.toList.all fun c=>ze9 c && !zby c
theorem zkj:∀{l:List Value},(l.all fun c=>ze9 c && !zby c)=true→LR φ l l
 | [],_=>trivial
 | c :: l,hl=>by
   simp only[List.all_cons,Bool.and_eq_true,Bool.not_eq_true'] at hl
   exact⟨VR.plain hl.1.1,hl.1.2,zkj (by simpa using hl.2)⟩
structure zeD (P:Program):Prop where
 zero:∀t i z,t < P.types.size→P.info? t=some i→i.zero=some z→zpa z=true
 dst:∀(f:Nat) (fn:Func) (c:Code),P.funcs[f]?= some fn→fn.body=some c→codeDst fn.ntmps c=true
 name:∀(f:Nat) (fn:Func),P.funcs[f]?= some fn→(fn.name == "runtime.NumGoroutine")=false
 depth:50≤P.depth
theorem zgF {t:TypeId} {zs:List Value} (hz:zan P t=some zs):t < P.types.size:=by
 unfold zan at hz
 cases hb:Nat.blt t P.types.size with
 | true=>exact Nat.blt_eq.mp hb
 | false=>rw[hb] at hz; simp at hz
theorem zbd {t:TypeId} {zs:List Value} (hz:zan P t=some zs):∃i z,P.info? t=some i∧i.zero=some z∧z.cells.toList=zs∧(∀xs,z≠.tuple xs):=by
 have hlt:=zgF hz
 unfold zan at hz
 rw[Nat.blt_eq.mpr hlt,cond_true] at hz
 split at hz
 ·rename_i i hi
  split at hz
  ·simp at hz
  ·rename_i z hne hz'
   simp only[Option.some.injEq] at hz
   exact⟨i,_,hi,hz',hz,fun xs e=>hne xs e⟩
  ·simp at hz
 ·simp at hz
theorem zbB (G:zeD P) {t:TypeId} {zs:List Value} (hz:zan P t=some zs):LR φ zs zs:=by
 obtain⟨i,z,hi,hz',rfl,hne⟩:=zbd hz
 have:=G.zero t i z (zgF hz) hi hz'
 apply zkj
 unfold zpa at this
 split at this
 ·exact absurd rfl (hne _)
 ·exact this
theorem znF (G:zeD P) (r:R P φ h w) {t:TypeId} {zs:List Value} (hz:zan P t=some zs) (hf:φ h.next=none):
 zfO P φ h w (Instr.alloc t true (.tuple #[])) (ptr h.next 0) (h.alloc (.cells zs t false)):=by
 obtain⟨i,z,hi,hz',hzs,hne⟩:=zbd hz
 obtain⟨φ',h1,h2⟩:=zbA (P:=P) (e:=t) (C:=z.cells) r hf (zbB (φ:=φ) G hz) ⟨[],by simp[hzs]⟩ 0
 refine⟨φ',_,_,?_,.ptr h1,h2⟩
 simp[Instr.alloc,zdo hi hz',newVar,newRow]
theorem LR.set:∀{xs ys:List Value} (i:Nat) {v v' : Value},LR φ xs ys→VR φ v v'→zby v=false→LR φ (xs.set i v) (ys.set i v')
 | [],[],_,_,_,_,_,_=>trivial
 | _ :: _,_ :: _,0,_,_,r,hv,hm=>⟨hv,hm,r.2.2⟩
 | _ :: _,_ :: _,i+1,_,_,r,hv,hm=>⟨r.1,r.2.1,LR.set i r.2.2 hv hm⟩
theorem LR.setAll (off:Nat):∀{vs vs' : List Value} (k:Nat) {cs cs' : Array Value},LR φ vs vs'→LR φ cs.toList cs'.toList→
 LR φ ((vs.zipIdx k).foldl (fun cs p=>cs.setIfInBounds (off+p.2) p.1) cs).toList ((vs'.zipIdx k).foldl (fun cs p=>cs.setIfInBounds (off+p.2) p.1) cs').toList
 | [],[],_,_,_,_,h=>by simpa using h
 | _ :: _,_ :: _,k,cs,cs',r,h=>by
   simp only[List.zipIdx_cons,List.foldl_cons]
   exact LR.setAll off (k+1) r.2.2 (by simpa using h.set (off+k) r.1 r.2.1)
def PR (φ:Fi):List (Nat×Value)→List (Nat×Value)→Prop
 | [],[]=>True
 | x :: xs,y :: ys=>x.1=y.1∧VR φ x.2 y.2∧PR φ xs ys
 | _,_=>False
theorem zed (place place' : Nat→Option (Nat×Nat)) (hp:∀i,place i=place' i):∀{ps ps' : List (Nat×Value)} {cs cs' out:Array Value},PR φ ps ps'→(ps.any fun p=>zeM p.2)=false→LR φ cs.toList cs'.toList→
 Instr.fill place cs ps=some out→∃out',Instr.fill place' cs' ps'= some out'∧LR φ out.toList out'.toList
 | [],[],cs,cs',out,_,_,hl,hf=>by
   simp only[Instr.fill,Option.some.injEq] at hf
   subst hf
   exact⟨cs',rfl,hl⟩
 | (i,v) :: ps,(j,v') :: ps',cs,cs',out,r,hn,hl,hf=>by
   obtain⟨rfl,hv,hr⟩:=r
   simp only[List.any_cons,Bool.or_eq_false_iff] at hn
   simp only[Instr.fill,←hp] at hf ⊢
   cases hpl:place i with
   | none=>simp[hpl] at hf
   | some q=>
     obtain⟨off,size⟩:=q
     simp only[hpl] at hf ⊢
     have hlc:=hv.cells (fun xs e=>by subst e; simp[zeM] at hn)
     have e1:=hlc.length
     have e2:=hl.length
     simp only[Array.length_toList] at e1 e2
     by_cases hc:(decide (v.cells.size≠size) || decide (off+v.cells.size > cs.size))=true
     ·simp only[hc,if_true] at hf
      simp at hf
     ·have hc' : ¬(decide (v'.cells.size≠size) || decide (off+v'.cells.size > cs'.size))=true:=by rw[←e1,←e2]; exact hc
      simp only[hc,if_false] at hf
      simp only[hc',if_false]
      refine zed place place' hp hr hn.2 ?_ hf
      have:=LR.setAll (φ:=φ) off 0 hlc hl
      rw[←Array.foldl_toList,←Array.foldl_toList]
      simpa[Array.toList_zipIdx] using this
theorem znG (G:zeD P) {t:TypeId} {ps ps' : Array (Nat×Value)} {u:Value} (hs:za1 P t ps=some u) (hp:PR φ ps.toList ps'.toList) (w:World):
 ∃u',(Instr.build t ps').run P w=.ok u' w∧VR φ u u':=by
 unfold za1 at hs
 split at hs
 ·simp at hs
 ·rename_i hn
  have hn' : (ps.toList.any fun p=>zeM p.2)=false:=by simpa using hn
  split at hs
  ·rename_i z fs hz hu
   obtain⟨i,zv,hi,hz',rfl,hne⟩:=zbd hz
   split at hs
   ·rename_i hall
    cases hfill:Instr.fill (fun i=>(fs[i]?).map fun f=>(f.offset,P.cellsOf f.type)) zv.cells.toList.toArray ps.toList with
    | none=>simp[hfill] at hs
    | some out=>
      simp only[hfill,Option.map_some,Option.some.injEq] at hs
      subst hs
      have hmap:∀(l:List Field),(∀f∈l,(P.info? f.type).isSome=true)→(List.mapM (fun f:Field=>(do pure (f.offset,←sizeOf f.type):Sem (Nat×Nat))) l).run P w=.ok (l.map fun f=>(f.offset,P.cellsOf f.type)) w:=by
       intro l
       induction l with
       | nil=>intro _; simp
       | cons f l ih=>
         intro hl
         simp only[List.mapM_cons,Sem.run_bind,zaA (hl f (by simp)),Result.andThen_ok,Sem.run_pure,ih (fun g hg=>hl g (by simp[hg])),List.map_cons]
      have hplaces:(Array.mapM (fun f:Field=>(do pure (f.offset,←sizeOf f.type):Sem (Nat×Nat))) fs).run P w=.ok (fs.map fun f=>(f.offset,P.cellsOf f.type)) w:=by
       rw[Array.mapM_eq_mapM_toList,Sem.run_map,hmap fs.toList (fun f hf=>List.all_eq_true.1 hall f hf)]
       simp
       apply Array.ext'
       simp
      obtain⟨out',h1,h2⟩:=zed (φ:=φ) (fun i=>(fs[i]?).map fun f=>(f.offset,P.cellsOf f.type)) ((fs.map fun f=>(f.offset,P.cellsOf f.type))[·]?) (fun i=>by simp) (cs':=zv.cells) hp hn' (by simpa using zbB (φ:=φ) G hz) hfill
      refine⟨.agg out',?_,LR.agg h2⟩
      simp only[Instr.build,Sem.run_bind,zdo hi hz',Result.andThen_ok,zad hu,hplaces,h1,Sem.run_pure]
   ·simp at hs
  ·rename_i z n elem hz hu
   obtain⟨i,zv,hi,hz',rfl,hne⟩:=zbd hz
   split at hs
   ·rename_i hel
    cases hfill:Instr.fill (fun i=>some (i * P.cellsOf elem,P.cellsOf elem)) zv.cells.toList.toArray ps.toList with
    | none=>simp[hfill] at hs
    | some out=>
      simp only[hfill,Option.map_some,Option.some.injEq] at hs
      subst hs
      obtain⟨out',h1,h2⟩:=zed (φ:=φ) (fun i=>some (i * P.cellsOf elem,P.cellsOf elem)) (fun i=>some (i * P.cellsOf elem,P.cellsOf elem)) (fun i=>rfl) (cs':=zv.cells) hp hn' (by simpa using zbB (φ:=φ) G hz) hfill
      refine⟨.agg out',?_,LR.agg h2⟩
      simp only[Instr.build,Sem.run_bind,zdo hi hz',Result.andThen_ok,zad hu,zaA hel,h1,Sem.run_pure]
   ·simp at hs
  ·simp at hs
end
section
variable {P:Program} {φ φ' : Fi} {h h' : AH} {w w' : World}
theorem getElem?_flat_replicate (l:List Value):∀(n i:Nat),i < n * l.length→((List.replicate n l).flatten)[i]?= l[i % l.length]?
 | 0,i,hi=>by simp at hi
 | n+1,i,hi=>by
   rw[List.replicate_succ,List.flatten_cons]
   by_cases hlt:i < l.length
   ·rw[List.getElem?_append_left hlt,Nat.mod_eq_of_lt hlt]
   ·rw[List.getElem?_append_right (by omega)]
    have hpos:0 < l.length:=by
     rcases Nat.eq_zero_or_pos l.length with k | k
     ·rw[k] at hi; simp at hi
     ·exact k
    rw[getElem?_flat_replicate l n (i - l.length) (by rw[Nat.add_mul] at hi; omega)]
    congr 1
    conv=>rhs; rw[show i=(i - l.length)+l.length by omega,Nat.add_mod_right]
theorem zhj {z:Array Value} {n s:Nat} (hz:z.size=s):((Array.range (n * s)).map (z[· % z.size]!)).toList=(List.replicate n z.toList).flatten:=by
 apply List.ext_getElem?
 intro i
 have hlen:((List.replicate n z.toList).flatten).length=n * s:=by simp[hz]
 by_cases hi:i < n * s
 ·rw[getElem?_flat_replicate z.toList n i (by simpa[hz] using hi)]
  have hpos:0 < z.size:=by
   rcases Nat.eq_zero_or_pos s with k | k
   ·rw[k] at hi; simp at hi
   ·omega
  have hm:i % z.size < z.size:=Nat.mod_lt _ hpos
  simp[hi,hm]
 ·rw[List.getElem?_eq_none (by simp; omega),List.getElem?_eq_none (by simp[hz]; omega)]
theorem LR.replicate {zs:List Value} (hz:LR φ zs zs):∀n,LR φ ((List.replicate n zs).flatten) ((List.replicate n zs).flatten)
 | 0=>trivial
 | n+1=>by
   rw[List.replicate_succ,List.flatten_cons]
   exact hz.append (LR.replicate hz n)
theorem zhL (G:zeD P) (r:R P φ h w) {t:TypeId} {l l' c c' v:Value} {h' : AH} (hs:zbg P h t l c=some (v,h')) (hl:VR φ l l') (hc:VR φ c c') (hf:h.next < h'.next→φ h.next=none):
 zfO P φ h w (Instr.makeSlice t l' c') v h':=by
 unfold zbg at hs
 split at hs
 ·rename_i elem kl ln kc cn hu
  split at hs
  ·rename_i i zs hi hz
   split at hs
   ·rename_i hcond
    obtain⟨h0,h1,h2,h3,h4⟩:=hcond
    simp only[Option.some.injEq,Prod.mk.injEq] at hs
    obtain⟨rfl,rfl⟩:=hs
    have hf0:=hf (by simp)
    cases hl
    cases hc
    obtain⟨i',z,hi',hz',rfl,hne⟩:=zbd hz
    rw[hi] at hi'
    cases hi'
    have hwl:IntKind.i64.wrap ln=ln:=by
     simp only[IntKind.wrap,IntKind.bits,IntKind.signed]
     simp
     omega
    have hwc:IntKind.i64.wrap cn=cn:=by
     simp only[IntKind.wrap,IntKind.bits,IntKind.signed]
     simp
     omega
    have hzl:z.cells.size=i.size:=by simpa using h4
    have hcells:(if cn.toNat * i.size=0 then (#[]:Array Value) else z.cells)=if cn.toNat * i.size=0 then #[] else z.cells:=rfl
    have key:∀zc:Array Value,zc=(if cn.toNat * i.size=0 then #[] else z.cells)→((Array.range (cn.toNat * i.size)).map (zc[· % zc.size]!)).toList=(List.replicate cn.toNat z.cells.toList).flatten:=by
     intro zc hzc
     by_cases h00:cn.toNat * i.size=0
     ·rw[h00]
      have:((List.replicate cn.toNat z.cells.toList).flatten).length=0:=by simp[hzl,h00]
      rw[List.eq_nil_of_length_eq_zero this]
      simp
     ·simp only[h00,if_false] at hzc
      subst hzc
      exact zhj hzl
    obtain⟨φ',g1,g2⟩:=zbA (P:=P) (e:=elem) (C:=(Array.range (cn.toNat * i.size)).map (fun k=>(if cn.toNat * i.size=0 then (#[]:Array Value) else z.cells)[k % (if cn.toNat * i.size=0 then (#[]:Array Value) else z.cells).size]!)) r hf0
     ((zbB (φ:=φ) G hz).replicate cn.toNat) ⟨[],by rw[key _ rfl]; simp⟩ 0
    have ht1:¬(cn < 0):=by omega
    have ht2:¬((i.bytes:Int) * cn > 2 ^ 48):=by omega
    have ht3:¬(ln < 0):=by omega
    have ht4:¬(ln > cn):=by omega
    refine⟨φ',.slice (some ⟨w.heap.size,0,none⟩) ln.toNat cn.toNat,_,?_,by simpa using VR.slice (n:=ln.toNat) (off:=0) g1 (show cn.toNat < zak by simp only[zak]; omega),g2⟩
    by_cases h00:cn.toNat * i.size=0
    ·simp[Instr.makeSlice,zad hu,asInt,asIntOf,typeInfo,hi,hwl,hwc,ht1,ht2,ht3,ht4,zaA (show (P.info? elem).isSome=true by simp[hi]),Program.cellsOf,h00,newRow]
     exact fun hb=>absurd hb (by omega)
    ·simp[Instr.makeSlice,zad hu,asInt,asIntOf,typeInfo,hi,hwl,hwc,ht1,ht2,ht3,ht4,zaA (show (P.info? elem).isSome=true by simp[hi]),Program.cellsOf,h00,newRow,zdo hi hz']
     exact fun hb=>absurd hb (by omega)
   ·simp at hs
  ·simp at hs
 ·simp at hs
theorem zgX (G:zeD P) (r:R P φ h w) {t:TypeId} {n:Nat} {ps ps' : Array (Nat×Value)} {v:Value} {h' : AH} (hs:zay P h t n ps=some (v,h')) (hp:PR φ ps.toList ps'.toList) (hf:h.next < h'.next→φ h.next=none):
 zfO P φ h w (Instr.buildSlice t n ps') v h':=by
 unfold zay at hs
 split at hs
 ·simp at hs
 ·rename_i hn
  have hn' : (ps.toList.any fun p=>zeM p.2)=false:=by simpa using hn
  split at hs
  ·rename_i elem hu
   split at hs
   ·rename_i i zs hi hz
    split at hs
    ·rename_i hcond
     obtain⟨hle,hzl,hoc⟩:=hcond
     obtain⟨i',z,hi',hz',rfl,hne⟩:=zbd hz
     rw[hi] at hi'
     cases hi'
     have hzl' : z.cells.size=i.size:=by simpa using hzl
     split at hs
     ·rename_i out hfill
      simp only[Option.some.injEq,Prod.mk.injEq] at hs
      obtain⟨rfl,rfl⟩:=hs
      have hf0:=hf (by simp)
      have key:((Array.range (n * i.size)).map (fun k=>(if n * i.size=0 then (#[]:Array Value) else z.cells)[k % (if n * i.size=0 then (#[]:Array Value) else z.cells).size]!)).toList=(List.replicate n z.cells.toList).flatten:=by
       by_cases h00:n * i.size=0
       ·rw[h00]
        have:((List.replicate n z.cells.toList).flatten).length=0:=by simp[hzl',h00]
        rw[List.eq_nil_of_length_eq_zero this]
        simp
       ·simp only[h00,if_false]
        exact zhj hzl'
      obtain⟨out',f1,f2⟩:=zed (φ:=φ) (fun j=>some (j * i.size,i.size)) (fun j=>some (j * i.size,i.size)) (fun _=>rfl)
       (cs':=(Array.range (n * i.size)).map (fun k=>(if n * i.size=0 then (#[]:Array Value) else z.cells)[k % (if n * i.size=0 then (#[]:Array Value) else z.cells).size]!)) hp hn'
       (by rw[key]; simpa using (zbB (φ:=φ) G hz).replicate n) hfill
      obtain⟨φ',g1,g2⟩:=zbA (P:=P) (e:=elem) (C:=out') r hf0 f2 ⟨[],by simp⟩ 0
      refine⟨φ',.slice (some ⟨w.heap.size,0,none⟩) n n,_,?_,by simpa using VR.slice (n:=n) (off:=0) g1 hoc,g2⟩
      have hle' : ¬(n * i.size > 2 ^ 24):=by omega
      by_cases h00:n * i.size=0
      ·simp only[h00,if_true] at f1
       simp[Instr.buildSlice,zad hu,zaA (show (P.info? elem).isSome=true by simp[hi]),Program.cellsOf,hi,h00,newRow] at f1 ⊢
       simp[f1,newRow]
      ·simp only[h00,if_false] at f1
       simp[Instr.buildSlice,zad hu,zaA (show (P.info? elem).isSome=true by simp[hi]),Program.cellsOf,hi,h00,hle',newRow,zdo hi hz'] at f1 ⊢
       simp[f1,newRow]
     ·simp at hs
    ·simp at hs
   ·simp at hs
  ·simp at hs
end
end Go.Am
