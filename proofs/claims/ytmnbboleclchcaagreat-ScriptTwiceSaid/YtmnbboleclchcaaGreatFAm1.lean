/-
  Texts of this proof, part 1. No condition.
-/
import Derived.Control
import Derived.Calls
import Derived.DeepKeys3
set_option linter.unusedSimpArgs false
set_option linter.unusedVariables false
namespace Go.Am
theorem Qa:type_of% @Option.some.injEq:=@Option.some.injEq
theorem Qb:type_of% @Nat.eq_of_beq_eq_true:=@Nat.eq_of_beq_eq_true
theorem Qc:type_of% @Nat.le_refl:=@Nat.le_refl
theorem Qd:type_of% @Bool.and_eq_true:=@Bool.and_eq_true
theorem Qe:type_of% @List.getElem?_eq_getElem:=@List.getElem?_eq_getElem
theorem Qf:type_of% @Prod.mk.injEq:=@Prod.mk.injEq
theorem Qg:type_of% @Nat.zero_le:=@Nat.zero_le
theorem Qh:type_of% @Int.toNat_natCast:=@Int.toNat_natCast
theorem Qi:type_of% @Nat.lt_of_lt_of_le:=@Nat.lt_of_lt_of_le
theorem Qj:type_of% @List.getElem_mem:=@List.getElem_mem
theorem Qk:type_of% @Option.map_eq_some_iff:=@Option.map_eq_some_iff
theorem Ql:type_of% @Option.map_some:=@Option.map_some
theorem Qm:type_of% @Nat.le_trans:=@Nat.le_trans
theorem Qo:type_of% @List.getElem?_eq_some_iff:=@List.getElem?_eq_some_iff
theorem Qp:type_of% @Nat.mul_one:=@Nat.mul_one
theorem Qq:type_of% @Nat.zero_add:=@Nat.zero_add
theorem Qr:type_of% @Nat.le_of_ble_eq_true:=@Nat.le_of_ble_eq_true
theorem Qs:type_of% @List.length_append:=@List.length_append
theorem Qt:type_of% @Nat.mul_le_mul_right:=@Nat.mul_le_mul_right
theorem Qu:type_of% @List.getElem?_append_right:=@List.getElem?_append_right
theorem Qv:type_of% @List.take_succ_eq_append_getElem:=@List.take_succ_eq_append_getElem
theorem Qw:type_of% @Nat.le_succ:=@Nat.le_succ
theorem Qx:type_of% @Array.getElem?_toList:=@Array.getElem?_toList
theorem Qy:type_of% @List.mem_cons:=@List.mem_cons
theorem Qz:type_of% @List.all_eq_true:=@List.all_eq_true
theorem QA:type_of% @List.take_of_length_le:=@List.take_of_length_le
theorem QB:type_of% @List.mem_cons_of_mem:=@List.mem_cons_of_mem
theorem QC:type_of% @List.drop_drop:=@List.drop_drop
theorem QD:type_of% @List.mem_singleton:=@List.mem_singleton
theorem QE:type_of% @List.map_cons:=@List.map_cons
theorem QF:type_of% @List.length_cons:=@List.length_cons
theorem QG:type_of% @Nat.beq_refl:=@Nat.beq_refl
theorem QH:type_of% @List.drop_eq_nil_of_le:=@List.drop_eq_nil_of_le
theorem QI:type_of% @List.mem_append:=@List.mem_append
theorem QJ:type_of% @Bool.not_eq_true':=@Bool.not_eq_true'
theorem QK:type_of% @Nat.lt_or_ge:=@Nat.lt_or_ge
theorem QL:type_of% @List.drop_append:=@List.drop_append
theorem QM:type_of% @List.append_assoc:=@List.append_assoc
theorem QN:type_of% @List.length_map:=@List.length_map
theorem QO:type_of% @List.mem_cons_self:=@List.mem_cons_self
theorem QP:type_of% @List.mem_of_getElem?:=@List.mem_of_getElem?
theorem QQ:type_of% @Nat.add_mul:=@Nat.add_mul
theorem QR:type_of% @List.nil_append:=@List.nil_append
theorem QS:type_of% @List.append_nil:=@List.append_nil
theorem QT:type_of% @List.getElem?_append_left:=@List.getElem?_append_left
theorem QU:type_of% @List.drop_eq_getElem_cons:=@List.drop_eq_getElem_cons
theorem QV:type_of% @Option.getD_some:=@Option.getD_some
theorem QW:type_of% @Nat.eq_zero_or_pos:=@Nat.eq_zero_or_pos
theorem QX:type_of% @List.getElem?_drop:=@List.getElem?_drop
theorem QY:type_of% @List.map_congr_left:=@List.map_congr_left
theorem QZ:type_of% @Array.length_toList:=@Array.length_toList
theorem Q0:type_of% @Nat.mod_eq_of_lt:=@Nat.mod_eq_of_lt
theorem Q1:type_of% @Nat.le_of_eq:=@Nat.le_of_eq
theorem Q2:type_of% @List.mem_iff_getElem:=@List.mem_iff_getElem
theorem Q3:type_of% @List.length_drop:=@List.length_drop
theorem Q4:type_of% @Classical.axiomOfChoice:=@Classical.axiomOfChoice
theorem Q5:type_of% @Nat.blt_eq:=@Nat.blt_eq
theorem Q6:type_of% @List.drop_of_length_le:=@List.drop_of_length_le
theorem Q7:type_of% @Option.some.inj:=@Option.some.inj
theorem Q8:type_of% @List.cons.injEq:=@List.cons.injEq
theorem Q9:type_of% @Nat.lt_irrefl:=@Nat.lt_irrefl
theorem Ja:type_of% @Nat.add_assoc:=@Nat.add_assoc
theorem Jb:type_of% @List.ext_getElem?:=@List.ext_getElem?
theorem Jc:type_of% @Array.getD_eq_getD_getElem?:=@Array.getD_eq_getD_getElem?
theorem Jd:type_of% @Int.le_refl:=@Int.le_refl
theorem Je:type_of% @Nat.lt_succ_self:=@Nat.lt_succ_self
theorem Jf:type_of% @List.map_map:=@List.map_map
theorem Jg:type_of% @List.getElem_of_mem:=@List.getElem_of_mem
theorem Jh:type_of% @Bool.or_eq_true:=@Bool.or_eq_true
theorem Ji:type_of% @List.getElem?_take:=@List.getElem?_take
theorem Jj:type_of% @BitVec.toNat_ofNat:=@BitVec.toNat_ofNat
theorem Jk:type_of% @List.map_nil:=@List.map_nil
theorem Jl:type_of% @List.take_append_drop:=@List.take_append_drop
theorem Jm:type_of% @List.length_take:=@List.length_take
noncomputable section
inductive Tr (α:Type) where
 | nil
 | node (v:Option α) (l r:Tr α)
theorem zjf {n m:Nat} (h:n≠m):Nat.beq n m=false:=by grind[Qb]
theorem ztn {n m:Nat} (h:n=m):Nat.beq n m=true:=by grind[QG]
namespace Tr
variable {α:Type}
def get (t:Tr α):Nat->Option α:=Tr.rec (motive:=λ_=>Nat->Option α) (λ_=>none) (λv _ _ a b n=>Bool.rec (Bool.rec (b (Nat.sub (Nat.div n 2) 1)) (a (Nat.div n 2)) (Nat.beq (Nat.mod n 2) 1)) v (Nat.beq n 0)) t
def zto (v:Option α) (f:Nat):Tr α->Nat->Tr α:=Nat.rec (motive:=λ_=>Tr α->Nat->Tr α) (λt _=>t) (λ_ g t=>Tr.rec (motive:=λ_=>Nat->Tr α)
 (λn=>Bool.rec (Bool.rec (.node none .nil (g .nil (Nat.sub (Nat.div n 2) 1))) (.node none (g .nil (Nat.div n 2)) .nil) (Nat.beq (Nat.mod n 2) 1)) (.node v .nil .nil) (Nat.beq n 0))
 (λu l r _ _ n=>Bool.rec (Bool.rec (.node u l (g r (Nat.sub (Nat.div n 2) 1))) (.node u (g l (Nat.div n 2)) r) (Nat.beq (Nat.mod n 2) 1)) (.node v l r) (Nat.beq n 0)) t) f
def set (t:Tr α) (n:Nat) (v:α):Tr α:=zto (some v) (n+1) t n
def del (t:Tr α) (n:Nat):Tr α:=zto none (n+1) t n
theorem get_nil (n:Nat):(Tr.nil:Tr α).get n=none:=rfl
theorem get_node (v:Option α) (l r:Tr α) (n:Nat):(Tr.node v l r).get n=cond (Nat.beq n 0) v (cond (Nat.beq (n % 2) 1) (l.get (n / 2)) (r.get (n / 2 - 1))):=by
 refine Eq.trans (b:=Bool.rec (motive:=λ_=>Option α) (Bool.rec (motive:=λ_=>Option α) (r.get (n / 2 - 1)) (l.get (n / 2)) (Nat.beq (n % 2) 1)) v (Nat.beq n 0)) rfl ?_
 cases Nat.beq n 0 <;> cases Nat.beq (n % 2) 1 <;> rfl
theorem zqv (v u:Option α) (l r:Tr α) (f n:Nat):zto v (f+1) (.node u l r) n=cond (Nat.beq n 0) (.node v l r) (cond (Nat.beq (n % 2) 1) (.node u (zto v f l (n / 2)) r) (.node u l (zto v f r (n / 2 - 1)))):=by
 refine Eq.trans (b:=Bool.rec (motive:=λ_=>Tr α) (Bool.rec (motive:=λ_=>Tr α) (.node u l (zto v f r (n / 2 - 1))) (.node u (zto v f l (n / 2)) r) (Nat.beq (n % 2) 1)) (.node v l r) (Nat.beq n 0)) rfl ?_
 cases Nat.beq n 0 <;> cases Nat.beq (n % 2) 1 <;> rfl
theorem zok (v:Option α):∀(f:Nat) (t:Tr α) (n m:Nat),n < f->(zto v f t n).get m=if m=n then v else t.get m:=by
 intro f
 induction f with
 | zero=>omega
 | succ f ih=>
   intro t n m h
   have key:∀(u:Option α) (l r:Tr α),(zto v (f+1) (.node u l r) n).get m=if m=n then v else (Tr.node u l r).get m:=by grind[get_node,zqv,zjf,ztn]
   cases t with
   | nil=>exact (key none .nil .nil).trans (by grind[get_node,get_nil])
   | node u l r=>exact key u l r
theorem get_set (t:Tr α) (n m:Nat) (v:α):(t.set n v).get m=if m=n then some v else t.get m:=zok _ _ _ _ _ (by omega)
theorem get_del (t:Tr α) (n m:Nat):(t.del n).get m=if m=n then none else t.get m:=zok _ _ _ _ _ (by omega)
def ofList (l:List α):Tr α:=(l.foldl (λ(p:Tr α×Nat) v=>(p.1.set p.2 v,p.2+1)) (.nil,0)).1
theorem zph (l:List α):∀(t:Tr α) (n m:Nat),((l.foldl (λ(p:Tr α×Nat) v=>(p.1.set p.2 v,p.2+1)) (t,n)).1).get m=if m < n then t.get m else (l[m - n]?).or (t.get m):=by induction l<;>grind[get_set]
theorem get_ofList (l:List α) (m:Nat):(ofList l).get m=l[m]?:=by grind[ofList,zph,get_nil]
end Tr
def zai:Nat:=18446744073709551616
inductive zxk where
 | ready | busy | done | over
 deriving DecidableEq
structure zqw where
 state:zxk
 pending:Option Code
 env:Tr Value
 params:List Tmp
 assign:Code
 body:Code
 ks:List Tmp
inductive zca where
 | cells (cs:List Value) (elem:TypeId) (ro:Bool)
 | map (es:List MapEntry) (clock:Nat)
 | siter (s:ByteArray) (pos:Nat)
 | loop (l:zqw)
structure AH where
 tr:Tr zca
 next:Nat
namespace AH
def get (h:AH) (b:Nat):Option zca:=h.tr.get b
def set (h:AH) (b:Nat) (o:zca):AH:={ h with tr:=h.tr.set b o }
def del (h:AH) (b:Nat):AH:={ h with tr:=h.tr.del b }
def alloc (h:AH) (o:zca):AH:={ tr:=h.tr.set h.next o,next:=h.next+1 }
theorem get_set (h:AH) (b c:Nat) (o:zca):(h.set b o).get c=if c=b then some o else h.get c:=Tr.get_set _ _ _ _
theorem get_del (h:AH) (b c:Nat):(h.del b).get c=if c=b then none else h.get c:=Tr.get_del _ _ _
theorem get_alloc (h:AH) (c:Nat) (o:zca):(h.alloc o).get c=if c=h.next then some o else h.get c:=Tr.get_set _ _ _ _
@[simp] theorem next_set (h:AH) (b:Nat) (o:zca):(h.set b o).next=h.next:=rfl
@[simp] theorem next_del (h:AH) (b:Nat):(h.del b).next=h.next:=rfl
@[simp] theorem next_alloc (h:AH) (o:zca):(h.alloc o).next=h.next+1:=rfl
end AH
abbrev Env:=Tr Value
def zgJ:Value->Bool
 | .bool _ | .int _ _ | .string _ | .pointer none | .slice none 0 0 | .map none | .nilFunc | .nilIface=>true
 | _=>false
def zdq:Value:=.tuple #[undef]
def isSkip:Value->Bool
 | .tuple vs=>match vs.toList with | [.tuple us]=>Nat.beq us.size 0 | _=>false
 | _=>false
def ev (e:Env):Operand->Value
 | .tmp t=>(e.get t).getD undef
 | .const v=>cond (zgJ v) v undef
 | .global _=>undef
 | .func f=>.func (.func f) #[] #[]
def putO (e:Env) (d:Option Tmp) (v:Value):Env:=match d with | some t=>e.set t v | none=>e
def putAll (e:Env):List Tmp->List Value->Env
 | t :: ts,v :: vs=>putAll (e.set t v) ts vs
 | _,_=>e
section
variable (P:Program)
def zcq:Value->Bool
 | .agg _ | .tuple _=>true
 | _=>false
def aggT (t:TypeId):Option Bool:=match P.underlying t with | some (.struct _) | some (.array _ _)=>some true | some _=>some false | none=>none
def ptr (b off:Nat):Value:=.pointer (some ⟨b,off,none⟩)
def zuT (h:AH) (e:TypeId) (cs:List Value):Value×AH:=(ptr h.next 0,h.alloc (.cells cs e false))
def zbL (h:AH) (t:TypeId) (v:Value):Option Value:=
 match v with
 | .pointer (some ⟨b,off,none⟩)=>
   match h.get b with
   | some (.cells cs _ _)=>
     match aggT P t with
     | some true=>if off+P.cellsOf t<=cs.length then some (.agg ((cs.drop off).take (P.cellsOf t)).toArray) else none
     | some false=>cs[off]?
     | none=>none
   | _=>none
 | _=>none
def zap (h:AH) (b off:Nat) (vs:List Value):Option AH:=
 match h.get b with
 | some (.cells cs e false)=>if off+vs.length<=cs.length then some (h.set b (.cells (cs.take off ++ vs ++ cs.drop (off+vs.length)) e false)) else none
 | _=>none
def zbM (h:AH) (t:TypeId) (a v:Value):Option AH:=
 match a,v with
 | _,.tuple _=>none
 | .pointer (some ⟨b,off,none⟩),v=>if v.cells.size=P.cellsOf t/\(P.info? t).isSome=true then zap h b off v.cells.toList else none
 | _,_=>none
def zbI (s:TypeId) (x:Value) (f:Nat):Option Value:=
 match P.underlying s with
 | some (.struct fs)=>
   match fs[f]?,x with
   | some fd,.pointer (some ⟨b,off,none⟩)=>if P.cellsOf fd.type=0 then none else some (ptr b (off+fd.offset))
   | _,_=>none
 | _=>none
def za9 (t:TypeId) (x i:Value):Option Value:=
 match P.underlying t,x,i with
 | some (.array n elem),.pointer (some ⟨b,off,none⟩),.int _ j=>if 0<=j/\j < n/\(P.info? elem).isSome=true then some (ptr b (off+j.toNat * P.cellsOf elem)) else none
 | some (.slice elem),.slice (some ⟨b,off,none⟩) n _,.int _ j=>if 0<=j/\j < n/\(P.info? elem).isSome=true then some (ptr b (off+j.toNat * P.cellsOf elem)) else none
 | _,_,_=>none
def aPart (t:TypeId) (cs:Array Value) (off:Nat):Option Value:=
 match aggT P t with
 | some true=>some (.agg (cs.extract off (off+P.cellsOf t)))
 | some false=>cs[off]?
 | none=>none
def zdG (t:TypeId) (x i:Value):Option Value:=
 match P.underlying t,x,i with
 | some (.array n elem),.agg cs,.int _ j=>if 0<=j/\j < n/\(P.info? elem).isSome=true then aPart P elem cs (j.toNat * P.cellsOf elem) else none
 | some .string,.string s,.int _ j=>if 0<=j then (s[j.toNat]?).map λb=>.int .u8 b.toNat else none
 | _,_,_=>none
def zeA (t:TypeId) (x:Value) (f:Nat):Option Value:=
 match P.underlying t,x with
 | some (.struct fs),.agg cs=>match fs[f]? with | some fd=>aPart P fd.type cs fd.offset | none=>none
 | _,_=>none
def zao (t:TypeId):Option (List Value):=match cond (Nat.blt t P.types.size) (P.info? t) none with | some i=>(match i.zero with | some (.tuple _)=>none | some z=>some z.cells.toList | none=>none) | none=>none
def zbl (x:Value) (y:Nat):Option Nat:=match x with | .int _ i=>if 0<=i/\i<=y then some i.toNat else none | _=>none
def zbm (len cap:Nat) (lo hi mx:Option Value):Option (Nat×Nat×Nat):=
 match (match mx with | some v=>zbl v cap | none=>some cap) with
 | none=>none
 | some m=>
   match (match hi,mx with | some v,_=>zbl v m | none,none=>some len | none,some _=>none) with
   | none=>none
   | some hh=>
     match (match lo with | some v=>zbl v hh | none=>some 0) with
     | none=>none
     | some l=>some (l,hh,m)
def zay (h:AH) (t:TypeId) (x:Value) (lo hi mx:Option Value):Option Value:=
 match P.underlying t,x with
 | some (.array n elem),.pointer (some ⟨b,off,none⟩)=>
   match zbm n n lo hi mx with
   | some (l,hh,m)=>if (P.info? elem).isSome=true/\n < zai then some (.slice (some ⟨b,if m=l then off else off+l * P.cellsOf elem,none⟩) (hh - l) (m - l)) else none
   | none=>none
 | some (.pointer arr),.pointer (some ⟨b,off,none⟩)=>
   match P.underlying arr with
   | some (.array n elem)=>
     match zbm n n lo hi mx with
     | some (l,hh,m)=>if (P.info? elem).isSome=true/\n < zai then some (.slice (some ⟨b,if m=l then off else off+l * P.cellsOf elem,none⟩) (hh - l) (m - l)) else none
     | none=>none
   | _=>none
 | some .string,.string s=>
   match mx,zbm s.size s.size lo hi none with
   | none,some (l,hh,_)=>some (.string (s.extract l hh))
   | _,_=>none
 | some (.slice elem),.slice none len cap=>
   match zbm len cap lo hi mx with
   | some (l,hh,m)=>if (P.info? elem).isSome=true/\cap < zai then some (.slice none (hh - l) (m - l)) else none
   | none=>none
 | some (.slice elem),.slice (some ⟨b,off,none⟩) len cap=>
   if (P.info? elem).isSome=true then
    if cap=zai then
     match zbm len len lo hi mx,h.get b with
     | some (l,hh,m),some (.cells _ e _)=>
       match mx with
       | none=>if P.cellsOf e=P.cellsOf elem then some (.slice (some ⟨b,off+l * P.cellsOf elem,none⟩) (hh - l) zai) else none
       | some _=>if 0 < len then some (.slice (some ⟨b,if m=l then off else off+l * P.cellsOf elem,none⟩) (hh - l) (m - l)) else none
     | _,_=>none
    else if cap < zai then
     match zbm len cap lo hi mx with
     | some (l,hh,m)=>some (.slice (some ⟨b,if m=l then off else off+l * P.cellsOf elem,none⟩) (hh - l) (m - l))
     | none=>none
    else none
   else none
 | _,_=>none
def zjd:Value->Option Nat
 | .slice _ n _=>some n
 | .string s=>some s.size
 | _=>none
def firstC (h:AH) (size n:Nat):Value->Option (List Value)
 | .slice (some ⟨b,off,none⟩) len _=>
   match n * size with
   | 0=>some []
   | _+1=>
     match h.get b with
     | some (.cells cs _ _)=>if n<=len/\off+n * size<=cs.length then some ((cs.drop off).take (n * size)) else none
     | _=>none
 | .slice none _ _=>some []
 | .string s=>some (((s.extract 0 n).data.toList).map λb=>.int .u8 b.toNat)
 | _=>none
def zaA:Nat:=140737488355328
def zaM (h:AH) (sType:TypeId) (xInt:Bool) (s x:Value):Option (Value×AH):=
 match P.underlying sType,s,xInt with
 | some (.slice elem),.slice base sLen sCap,false=>
   match P.info? elem,zjd x with
   | some i,some n=>
     match firstC h i.size sLen s,firstC h i.size n x,i.zero with
     | some old,some new,some z=>
       if z.cells.size=i.size/\0 < i.size/\new.length=n * i.size/\old.length=sLen * i.size then
        if sCap=zai then
         match base with
         | some ⟨b,_,none⟩=>
           match h.get b with
           | some (.cells _ e false)=>
             if e=elem/\(sLen+n) * i.bytes<=zaA/\sLen+n<=9223372036854775807 then some (.slice (some ⟨h.next,0,none⟩) (sLen+n) zai,(h.del b).alloc (.cells (old ++ new) elem false)) else none
           | _=>none
         | _=>none
        else if sLen+n<=sCap then
         match base with
         | some ⟨b,off,none⟩=>
           match n with
           | 0=>some (.slice base sLen sCap,h)
           | _+1=>
             match zap h b (off+sLen * i.size) new with
             | some h'=>some (.slice base (sLen+n) sCap,h')
             | none=>none
         | none=>some (.slice none (sLen+n) sCap,h)
         | _=>none
        else if sLen<=sCap/\(sLen+n) * i.bytes<=zaA/\sLen+n<=9223372036854775807 then
         some (.slice (some ⟨h.next,0,none⟩) (sLen+n) zai,h.alloc (.cells (old ++ new) elem false))
        else none
       else none
     | _,_,_=>none
   | _,_=>none
 | _,_,_=>none
def zeh (h:AH) (sType xType:TypeId) (s x:Value):Option (Value×AH):=
 match P.underlying sType,P.underlying xType,s,x with
 | some (.slice elem),some (.int _),.slice none 0 0,.int _ l=>
   match P.info? elem,zao P elem with
   | some i,some z=>
     if z.length=i.size/\0 < i.size/\0 < l/\l.toNat * i.bytes<=zaA/\l<=4611686018427387904 then
      some (.slice (some ⟨h.next,0,none⟩) l.toNat zai,h.alloc (.cells ((List.replicate l.toNat z).flatten) elem false))
     else none
   | _,_=>none
 | _,_,_,_=>none
def zc4 (h:AH) (dType:TypeId) (d s:Value):Option (Value×AH):=
 match P.underlying dType,d with
 | some (.slice elem),.slice base dLen _=>
   match P.info? elem,zjd s with
   | some i,some sl=>
     match firstC h i.size (Nat.min sl dLen) s with
     | some cells=>
       match base,cells with
       | none,_=>some (.int .i64 (Nat.min sl dLen),h)
       | some ⟨_,_,none⟩,[]=>some (.int .i64 (Nat.min sl dLen),h)
       | some ⟨b,off,none⟩,c :: cs=>if dLen=0 then none else match zap h b off (c :: cs) with | some h'=>some (.int .i64 (Nat.min sl dLen),h') | none=>none
       | _,_=>none
     | none=>none
   | _,_=>none
 | _,_=>none
def ze9 (h:AH) (t:TypeId) (x:Value):Option (Value×AH):=
 match P.underlying t,x with
 | some (.slice elem),.slice (some ⟨b,off,none⟩) (n+1) _=>
   match zao P elem with
   | some z=>if z.length=P.cellsOf elem then match zap h b off ((List.replicate (n+1) z).flatten) with | some h'=>some (undef,h') | none=>none else none
   | none=>none
 | some (.slice _),.slice _ 0 _=>some (undef,h)
 | some (.slice _),.slice none _ _=>some (undef,h)
 | _,_=>none
def zaX (h:AH) (t:TypeId) (len cap:Value):Option (Value×AH):=
 match P.underlying t,len,cap with
 | some (.slice elem),.int _ l,.int _ c=>
   match P.info? elem,zao P elem with
   | some i,some z=>
     if 0<=l/\l<=c/\c<=9223372036854775807/\i.bytes * c<=281474976710656/\z.length=i.size then
      some (.slice (some ⟨h.next,0,none⟩) l.toNat c.toNat,h.alloc (.cells ((List.replicate c.toNat z).flatten) elem false))
     else none
   | _,_=>none
 | _,_,_=>none
def zdO:Value->Bool
 | .tuple _=>true
 | _=>false
def zbA (t:TypeId) (parts:Array (Nat×Value)):Option Value:=
 if parts.toList.any (λp=>zdO p.2) then none else
 match zao P t,P.underlying t with
 | some z,some (.struct fields)=>
   if fields.toList.all (λf=>(P.info? f.type).isSome) then (Instr.fill (λi=>(fields[i]?).map λf=>(f.offset,P.cellsOf f.type)) z.toArray parts.toList).map .agg else none
 | some z,some (.array _ elem)=>
   if (P.info? elem).isSome=true then (Instr.fill (λi=>some (i * P.cellsOf elem,P.cellsOf elem)) z.toArray parts.toList).map .agg else none
 | _,_=>none
def zar (h:AH) (t:TypeId) (len:Nat) (parts:Array (Nat×Value)):Option (Value×AH):=
 if parts.toList.any (λp=>zdO p.2) then none else
 match P.underlying t with
 | some (.slice elem)=>
   match P.info? elem,zao P elem with
   | some i,some z=>
     if len * i.size<=16777216/\z.length=i.size/\len < zai then
      match Instr.fill (λj=>some (j * i.size,i.size)) ((List.replicate len z).flatten).toArray parts.toList with
      | some cs=>some (.slice (some ⟨h.next,0,none⟩) len len,h.alloc (.cells cs.toList elem false))
      | none=>none
     else none
   | _,_=>none
 | _=>none
def zpi:Lit->Lit->Bool
 | .bool a,.bool b=>a == b
 | .int j a,.int k b=>decide (j=k) && a == b
 | .float j a,.float k b=>decide (j=k) && a == b
 | .string a,.string b=>a == b
 | .nil,.nil=>true
 | _,_=>false
def litsEq:List Lit->List Lit->Bool
 | [],[]=>true
 | a :: as,b :: bs=>zpi a b && litsEq as bs
 | _,_=>false
def zdL (kt:TypeId) (k:Value):Option (List Lit):=cond (k.formed P kt) (P.keyLits 40 kt k.cells.toList) none
def aEq (t:TypeId) (x y:Value):Option Bool:=
 match x,y with
 | .bool a,.bool b=>match P.underlying t with | some .bool=>some (a == b) | _=>none
 | .agg xs,.agg ys=>
   match P.keyTypeAt 40 t,zdL P t (.agg xs),zdL P t (.agg ys) with
   | true,some la,some lb=>some (litsEq la lb)
   | _,_,_=>none
 | .pointer none,.pointer b=>match P.underlying t with | some (.pointer _)=>some b.isNone | _=>none
 | .pointer (some _),.pointer none=>match P.underlying t with | some (.pointer _)=>some false | _=>none
 | .slice none _ _,.slice none _ _=>match P.underlying t with | some (.slice _)=>some true | _=>none
 | .slice (some _) n c,.slice none _ _=>match P.underlying t,n+c with | some (.slice _),_+1=>some false | _,_=>none
 | .map a,.map none=>match P.underlying t with | some (.map _ _)=>some a.isNone | _=>none
 | .map none,.map (some _)=>match P.underlying t with | some (.map _ _)=>some false | _=>none
 | .nilFunc,.nilFunc=>match P.underlying t with | some (.func _ _ _)=>some true | _=>none
 | .func _ _ _,.nilFunc | .nilFunc,.func _ _ _=>match P.underlying t with | some (.func _ _ _)=>some false | _=>none
 | _,_=>none
def zgK (op:BinOp) (k:IntKind) (a b:Int):Option Value:=
 match op with
 | .add=>some (.int k (k.wrap (a+b)))
 | .sub=>some (.int k (k.wrap (a - b)))
 | .mul=>some (.int k (k.wrap (a * b)))
 | .quo=>if b=0 then none else some (.int k (k.wrap (a.tdiv b)))
 | .rem=>if b=0 then none else some (.int k (a.tmod b))
 | .and=>some (.int k (k.wrap (BitVec.ofInt k.bits a &&& BitVec.ofInt k.bits b).toNat))
 | .or=>some (.int k (k.wrap (BitVec.ofInt k.bits a ||| BitVec.ofInt k.bits b).toNat))
 | .xor=>some (.int k (k.wrap (BitVec.ofInt k.bits a ^^^ BitVec.ofInt k.bits b).toNat))
 | .andNot=>some (.int k (k.wrap (BitVec.ofInt k.bits a &&& ~~~ BitVec.ofInt k.bits b).toNat))
 | .eql=>some (.bool (a == b))
 | .neq=>some (.bool (a != b))
 | .lss=>some (.bool (decide (a < b)))
 | .leq=>some (.bool (decide (a<=b)))
 | .gtr=>some (.bool (decide (a > b)))
 | .geq=>some (.bool (decide (a≥b)))
 | _=>none
def zaV (op:BinOp) (k:IntKind) (a b:Int):Option Value:=
 if b < 0 then none else
 match op with
 | .shl=>some (.int k (k.wrap (a * 2 ^ min b.toNat k.bits)))
 | .shr=>some (.int k (a.fdiv (2 ^ min b.toNat k.bits)))
 | _=>none
def zvD (op:BinOp) (a b:ByteArray):Option Value:=
 match op with
 | .add=>if ((a.size+b.size:Nat):Int)<=9223372036854775807 then some (.string (a ++ b)) else none
 | .eql=>some (.bool (a == b))
 | .neq=>some (.bool (!(a == b)))
 | .lss=>some (.bool (Op.bytesLess a.toList b.toList))
 | _=>none
def zfV (op:BinOp) (t:TypeId) (x y:Value):Option Value:=
 match x,y with
 | .int k a,.int k' b=>
   match op with
   | .shl=>zaV .shl k a b
   | .shr=>zaV .shr k a b
   | op=>if k=k' then zgK op k a b else none
 | .string a,.string b=>zvD op a b
 | x,y=>
   match op with
   | .eql=>(aEq P t x y).map .bool
   | .neq=>(aEq P t x y).map λb=>.bool (!b)
   | _=>none
def aUn (op:UnOp) (x:Value):Option Value:=
 match op,x with
 | .neg,.int k n=>some (.int k (k.wrap (0 - n)))
 | .xor,.int k n=>some (.int k (k.wrap (BitVec.ofInt k.bits (if k.signed then -1 else k.max) ^^^ BitVec.ofInt k.bits n).toNat))
 | .not,.bool b=>some (.bool !b)
 | _,_=>none
def zaF:List Value->Option (List UInt8)
 | []=>some []
 | .int .u8 n :: r=>(zaF r).map (UInt8.ofNat n.toNat :: ·)
 | _=>none
def zav (h:AH) (src dst:TypeId) (x:Value):Option (Value×AH):=
 match P.underlying src,P.underlying dst,x with
 | some (.int _),some (.int k),.int _ n=>some (.int k (k.wrap n),h)
 | some .string,some .string,.string s=>some (.string s,h)
 | some .string,some (.slice e),.string s=>
   match P.underlying e with
   | some (.int .u8)=>if s.size<=zaA/\P.cellsOf e=1 then some (.slice (some ⟨h.next,0,none⟩) s.size zai,h.alloc (.cells (s.data.toList.map λb=>.int .u8 b.toNat) e false)) else none
   | _=>none
 | some (.slice e),some .string,.slice a n c=>
   match P.underlying e with
   | some (.int .u8)=>
     match firstC h 1 n (.slice a n c) with
     | some cs=>match zaF cs with | some bs=>some (.string ⟨bs.toArray⟩,h) | none=>none
     | none=>none
   | _=>none
 | some (.slice _),some (.slice e2),.slice (some ⟨b,off,none⟩) n c=>
   match P.underlying e2,h.get b with
   | some (.int .u8),some (.cells cs e false)=>if src=dst/\0 < n then some (.slice (some ⟨b,off,none⟩) n c,h.set b (.cells cs e false)) else none
   | _,_=>none
 | _,_,_=>none
def zc5 (mx:Bool) (k:IntKind):Int->List Value->Option Value
 | a,[]=>some (.int k a)
 | a,.int _ b :: r=>zc5 mx k (if mx then (if b > a then b else a) else (if b < a then b else a)) r
 | _,_=>none
def zdP (mx:Bool):List Value->Option Value
 | .int k a :: r=>zc5 mx k a r
 | _=>none
def zfa (kt:TypeId) (la:List Lit):List MapEntry->Nat->Option (Option (Nat×Value))
 | [],_=>some none
 | e :: es,i=>
   match zdL P kt e.key with
   | some lb=>cond (litsEq la lb) (some (some (i,e.val))) (zfa kt la es (i+1))
   | none=>none
def zvE (kt:TypeId):Bool:=P.keyTypeAt 40 kt && P.tiled 40 kt
def zeS (t:TypeId):Option Value:=match cond (Nat.blt t P.types.size) (P.info? t) none with | some i=>(match i.zero with | some (.tuple _)=>none | some z=>some z | none=>none) | none=>none
def zcr (h:AH) (t:TypeId) (m k:Value) (ok:Bool):Option Value:=
 match P.underlying t with
 | some (.map kt et)=>
   match zvE P kt,zdL P kt k,zeS P et with
   | true,some la,some z=>
     match m with
     | .map none=>some (cond ok (.tuple #[z,.bool false]) z)
     | .map (some r)=>
       match h.get r with
       | some (.map es _)=>
         match zfa P kt la es 0 with
         | some (some (_,v))=>some (cond ok (.tuple #[v,.bool true]) v)
         | some none=>some (cond ok (.tuple #[z,.bool false]) z)
         | none=>none
       | _=>none
     | _=>none
   | _,_,_=>none
 | _=>none
def zba (h:AH) (t:TypeId) (m k v:Value):Option AH:=
 match P.underlying t,m with
 | some (.map kt _),.map (some r)=>
   match zvE P kt,zdL P kt k,h.get r with
   | true,some la,some (.map es clock)=>
     match zfa P kt la es 0 with
     | some (some (i,_))=>some (h.set r (.map (es.modify i λe=>{ e with key:=k,val:=v }) clock))
     | some none=>some (h.set r (.map (es ++ [{ key:=k,val:=v,born:=clock }]) (clock+1)))
     | none=>none
   | _,_,_=>none
 | _,_=>none
def zeT (h:AH) (t:TypeId) (m k:Value):Option (Value×AH):=
 match P.underlying t,m with
 | some (.map kt _),.map (some r)=>
   match zvE P kt,zdL P kt k,h.get r with
   | true,some la,some (.map es clock)=>
     match zfa P kt la es 0 with
     | some (some (i,_))=>some (undef,h.set r (.map (es.eraseIdx i) clock))
     | some none=>some (undef,h.set r (.map es clock))
     | none=>none
   | _,_,_=>none
 | _,_=>none
def zjz (h:AH) (t:TypeId) (x:Value):Option Value:=
 match P.underlying t,x with
 | some .string,.string s=>some (.int .i64 s.size)
 | some (.array n _),_=>some (.int .i64 n)
 | some (.pointer arr),_=>match P.underlying arr with | some (.array n _)=>some (.int .i64 n) | _=>none
 | some (.slice _),.slice _ n _=>some (.int .i64 n)
 | some (.map _ _),.map none=>some (.int .i64 0)
 | some (.map _ _),.map (some r)=>match h.get r with | some (.map es _)=>some (.int .i64 es.length) | _=>none
 | _,_=>none
def zuU (t:TypeId) (x:Value):Option Value:=
 match P.underlying t,x with
 | some (.slice _),.slice _ _ c=>if c < zai then some (.int .i64 c) else none
 | _,_=>none
def zak (h:AH) (b:Builtin) (argTypes:Array TypeId) (args:List Value):Option (Value×AH):=
 match b,argTypes.toList,args with
 | .len,[t],[x]=>(zjz P h t x).map (·,h)
 | .cap,[t],[x]=>(zuU P t x).map (·,h)
 | .append,[st,xt],[s,x]=>match P.underlying xt with | some (.int _)=>zeh P h st xt s x | _=>zaM P h st (match P.underlying xt with | some (.slice _) | some .string=>false | _=>true) s x
 | .copy,t :: _,[d,s]=>zc4 P h t d s
 | .clear,t :: _,[x]=>ze9 P h t x
 | .delete,t :: _,[m,k]=>zeT P h t m k
 | .min,_,args=>(zdP false args).map (·,h)
 | .max,_,args=>(zdP true args).map (·,h)
 | _,_,_=>none
def aOp (o:Oper) (e:Env) (h:AH):Option (Value×AH):=
 match o.op with
 | .move x | .assign x=>some (ev e x,h)
 | .pick c a b=>match ev e c with | .bool t=>some (cond t (ev e a) (ev e b),h) | _=>none
 | .alloc t=>match zao P t with | some z=>some (zuT h t z) | none=>none
 | .box t x=>match ev e x with | .tuple _=>none | v=>some (zuT h t v.cells.toList)
 | .build t parts=>(zbA P t (parts.map λ(i,x)=>(i,ev e x))).map (·,h)
 | .buildSlice t n parts=>zar P h t n (parts.map λ(i,x)=>(i,ev e x))
 | .load t a=>(zbL P h t (ev e a)).map (·,h)
 | .store t a v=>(zbM P h t (ev e a) (ev e v)).map (undef,·)
 | .nilCheck x=>match ev e x with | .pointer (some a)=>some (.pointer (some a),h) | .func (.func f) a b=>some (.func (.func f) a b,h) | .func (.yield f) a b=>some (.func (.yield f) a b,h) | _=>none
 | .binOp op t x y _=>(zfV P op t (ev e x) (ev e y)).map (·,h)
 | .unOp op _ x=>(aUn op (ev e x)).map (·,h)
 | .convert s d x=>zav P h s d (ev e x)
 | .makeFunc fn a b=>match fn with | .func f=>some (.func (.func f) (a.map (ev e)) (b.map (ev e)),h) | _=>none
 | .makeMap _ r=>match r with | none=>some (.map (some h.next),h.alloc (.map [] 0)) | some _=>none
 | .makeSlice t l c=>zaX P h t (ev e l) (ev e c)
 | .slice t x lo hi mx=>(zay P h t (ev e x) (lo.map (ev e)) (hi.map (ev e)) (mx.map (ev e))).map (·,h)
 | .fieldAddr s x f=>(zbI P s (ev e x) f).map (·,h)
 | .field t x f=>(zeA P t (ev e x) f).map (·,h)
 | .indexAddr t x i=>(za9 P t (ev e x) (ev e i)).map (·,h)
 | .index t x i=>(zdG P t (ev e x) (ev e i)).map (·,h)
 | .lookup t m k ok=>(zcr P h t (ev e m) (ev e k) ok).map (·,h)
 | .mapUpdate t m k v=>(zba P h t (ev e m) (ev e k) (ev e v)).map (undef,·)
 | .range t x=>match P.underlying t,ev e x with | some .string,.string s=>some (ptr h.next 0,h.alloc (.siter s 0)) | _,_=>none
 | .next it true=>
   match ev e it with
   | .pointer (some ⟨r,0,none⟩)=>
     match h.get r with
     | some (.siter s pos)=>
       if pos < s.size then some (.tuple #[.bool true,.int .i64 pos,.int .i32 (Utf8.decode s pos).1],h.set r (.siter s (pos+(Utf8.decode s pos).2))) else some (.tuple #[.bool false],h)
     | _=>none
   | _=>none
 | .extract t i=>match ev e t with | .tuple vs=>cond (isSkip (.tuple vs)) none ((vs[i]?).map (·,h)) | _=>none
 | .call { callee:=.builtin b,args,argTypes }=>zak P h b argTypes (args.toList.map (ev e))
 | .makeInterface t x=>match P.underlying t with | some (.interface _)=>none | some _=>some (.iface t (ev e x),h) | none=>none
 | .typeAssert x _ t false=>match P.underlying t,ev e x with | some (.interface _),_=>none | some _,.iface u v=>if u=t then some (v,h) else none | _,_=>none
 | _=>none
inductive XF where
 | ext (g:List Value->AH->Option (Value×AH))
 | sum (g:List Value->AH->Option (Value×AH))
abbrev Xs:=FuncId->Option XF
inductive AX where
 | normal
 | exit (id:Nat)
 | ret
abbrev Ex:=Option Nat->List Tmp->Code->Env->AH->Option (AX×Env×AH)
def killV (h:AH):Value->AH
 | .pointer (some a)=>h.del a.block
 | .slice (some a) _ _=>h.del a.block
 | .map (some r)=>h.del r
 | _=>h
def preKill (ks:List Tmp) (d:Option Tmp) (e:Env) (h:AH):AH:=match d with | some t=>if ks.contains t then killV h (ev e (.tmp t)) else h | none=>h
def zbW (e:Env) (h:AH):ResultVar->Option Value
 | .tmp t=>some (ev e (.tmp t))
 | .cell a t=>zbL P h t (ev e (.tmp a))
def zb6 (e:Env) (h:AH) (rs:List ResultVar):Option Value:=
 match rs.mapM (zbW P e h) with
 | some [v]=>some v
 | some vs=>some (.tuple vs.toArray)
 | none=>none
variable (K:Xs)
def zpj (h:AH) (y:Option (Value×AH)):Option (Value×AH):=match y with | some (v,h')=>(match Nat.ble h.next h'.next with | true=>some (v,h') | false=>none) | none=>none
def zeU (r:Ex) (f:FuncId) (args:List Value) (h:AH):Option (Value×AH):=
 match P.funcs[f]? with
 | some fn=>
   match fn.body with
   | some c=>
     match r none [] c (Tr.ofList args) h with
     | some (.normal,e',h') | some (.ret,e',h')=>match zb6 P e' h' fn.results.toList with | some v=>some (v,h') | none=>none
     | _=>none
   | none=>none
 | none=>none
def zbJ (r:Ex) (f:FuncId) (args:List Value) (h:AH):Option (Value×AH):=
 match K f with
 | some (.sum g)=>zpj h (g args h)
 | some (.ext _)=>none
 | none=>zeU P r f args h
def zdQ (r:Ex) (f:FuncId) (args:List Value) (h:AH):Option (Value×AH):=
 match K f with
 | some (.ext g)=>zpj h (g args h)
 | _=>zbJ P K r f args h
def zc6 (r:Ex) (l:Nat) (args:List Value) (h:AH):Option (Value×AH):=
 match h.get l with
 | some (.loop L)=>
   if args.length=L.params.length then
    match r (some l) [] L.assign (putAll L.env L.params args) h with
    | some (.normal,e2,h2)=>
      match h2.get l with
      | some (.loop L2)=>
        if L2.state=.ready then
         match r (some l) [] L.body e2 (h2.set l (.loop { L2 with state:=.busy })) with
         | some (x,_,h4)=>
           match h4.get l with
           | some (.loop L4)=>
             match x with
             | .normal=>some (.bool true,h4.set l (.loop { L4 with state:=.ready,pending:=none }))
             | .exit id=>some (.bool false,h4.set l (.loop { L4 with state:=.done,pending:=some (.exit id) }))
             | .ret=>some (.bool false,h4.set l (.loop { L4 with state:=.done,pending:=some .ret }))
           | _=>none
         | none=>none
        else none
      | _=>none
    | _=>none
   else none
 | _=>none
def zcs (r:Ex) (v:Value) (args:List Value) (h:AH):Option (Value×AH):=
 match v with
 | .func (.func f) first cap=>zdQ P K r f (first.toList ++ args ++ cap.toList) h
 | .func (.yield l) first _=>zc6 r l (first.toList ++ args) h
 | _=>none
def runOp (r:Ex) (o:Oper) (e:Env) (h:AH):Option (Value×AH):=
 match o.op with
 | .call { callee:=.value f,args,.. }=>zcs P K r (ev e f) (args.toList.map (ev e)) h
 | _=>aOp P o e h
def zaI (ops:Array Oper) (o:Oper) (e:Env):Option Bool:=
 match o.guard with
 | none=>some true
 | some (j,w)=>match (ops[j]?).bind (·.dst) with | some d=>(match e.get d with | some (.bool b)=>some (b == w) | some v=>cond (isSkip v) (some false) none | none=>none) | none=>none
def zbj (r:Ex) (ks:List Tmp) (ops:Array Oper):List Oper->Env->AH->Option (Env×AH)
 | [],e,h=>some (e,h)
 | o :: os,e,h=>
   match zaI ops o e with
   | some true=>
     match runOp P K r o e (preKill ks o.dst e h) with
     | some (v,h')=>zbj r ks ops os (putO e o.dst v) h'
     | none=>none
   | some false=>zbj r ks ops os (putO e o.dst zdq) h
   | none=>none
def zax (o:Op):Nat:=
 match o with
 | .load _ _ | .lookup _ _ _ _ | .slice _ _ _ _ _=>2
 | .convert s d _=>match P.underlying s,P.underlying d with | _,some .string=>2 | some .string,some (.slice _)=>1 | _,some (.int _)=>0 | _,_=>3
 | .call { callee:=.builtin .len,.. }=>2
 | .move _ | .assign _ | .pick _ _ _ | .build _ _ | .nilCheck _ | .binOp _ _ _ _ _ | .unOp _ _ _ | .makeFunc _ _ _
 | .fieldAddr _ _ _ | .field _ _ _ | .indexAddr _ _ _ | .index _ _ _ | .extract _ _=>0
 | .alloc _ | .box _ _ | .buildSlice _ _ _ | .makeMap _ _ | .makeSlice _ _ _=>1
 | _=>3
def eqS:Value->Value->Bool
 | .bool a,.bool b=>a == b
 | .int j a,.int k b=>j == k && a == b
 | .string a,.string b=>a == b
 | .pointer a,.pointer b=>a == b
 | .slice a n c,.slice b m d=>a == b && n == m && c == d
 | .map a,.map b=>a == b
 | .nilFunc,.nilFunc | .nilIface,.nilIface=>true
 | _,_=>false
def eqL:List Value->List Value->Bool
 | [],[]=>true
 | a :: as,b :: bs=>eqS a b && eqL as bs
 | _,_=>false
def eqV:Value->Value->Bool
 | .agg a,.agg b=>eqL a.toList b.toList
 | .tuple a,.tuple b=>eqL a.toList b.toList
 | a,b=>eqS a b
def zld (ops:Array Oper) (o:Oper):List Tmp:=
 (o.op.operands.toList.filterMap fun | .tmp t=>some t | _=>none) ++ (match o.guard with | some (g,_)=>((ops[g]?).bind (·.dst)).toList | none=>[])
def zqx (ops:Array Oper) (bf:Array Nat):Nat->Nat->List Nat->List Nat
 | 0,_,acc=>acc
 | f+1,m,acc=>
   let rdy:=(List.range ops.size).filter λi=>!Nat.testBit m i && Nat.beq (Nat.land (bf.getD i 0) m) (bf.getD i 0)
   let kd (k:Nat->Bool):=rdy.find? λi=>match ops[i]? with | some o=>k (zax P o.op) | none=>false
   match (kd (λk=>Nat.beq k 0 || Nat.beq k 2)).or ((kd (λk=>Nat.beq k 3)).or rdy.head?) with
   | some i=>zqx ops bf f (Nat.lor m (Nat.shiftLeft 1 i)) (acc ++ [i])
   | none=>acc
def eagerOrd (ops:Array Oper) (bf:Array Nat):List Nat:=zqx P ops bf ops.size 0 []
def zy4 (ops:Array Oper):Nat->Nat->List Nat->List Nat
 | 0,_,acc=>acc.reverse
 | f+1,m,acc=>
   match (List.range ops.size).find? λi=>!Nat.testBit m i && (match ops[i]? with | some o=>o.after.toList.all λe=>!Region.binds .gc e || Nat.testBit m e.on | none=>false) with
   | some i=>zy4 ops f (Nat.lor m (Nat.shiftLeft 1 i)) (i :: acc)
   | none=>acc.reverse
def zfb (md:Region.Mode) (ops:Array Oper):List Nat->List Nat->Bool
 | _,[]=>true
 | seen,j :: l=>(match ops[j]? with | some o=>o.after.toList.all λe=>!Region.binds md e || seen.contains e.on | none=>false) && !seen.contains j && zfb md ops (j :: seen) l
def zgL (n:Nat) (l:List Nat):Bool:=(List.range n).all λi=>l.contains i
def zhC (a b:Oper):Bool:=match a.dst,b.dst with | some x,some y=>!Nat.beq x y | _,_=>true
def zhD (ops:Array Oper) (a b:Oper):Bool:=(match a.dst with | some x=>(zld ops b).contains x | none=>false) || (match b.dst with | some y=>(zld ops a).contains y | none=>false)
def zol (ops:Array Oper) (bf:Array Nat) (ia ib:Nat) (pa pb:Nat):Option (List (Nat×Nat)):=
 match ops[ia]?,ops[ib]? with
 | some a,some b=>
   match zhC a b,(bf.getD ib 0).testBit ia,zhD ops a b with
   | false,_,_=>none
   | _,true,_=>some []
   | _,false,true=>none
   | _,_,_=>
     match zax P a.op,zax P b.op with
     | 3,3 | 1,3=>none
     | 2,3=>some [(pa,pb)]
     | 3,2=>some [(pb,pa)]
     | _,_=>some []
 | _,_=>none
def zfc (ops:Array Oper) (bf:Array Nat) (ia pa:Nat):List Nat->Nat->Option (List (Nat×Nat))
 | [],_=>some []
 | ib :: l,pb=>match zol P ops bf ia ib pa pb,zfc ops bf ia pa l (pb+1) with | some x,some y=>some (x ++ y) | _,_=>none
def zfd (ops:Array Oper) (bf:Array Nat):List Nat->Nat->Option (List (Nat×Nat))
 | [],_=>some []
 | ia :: l,pa=>match zfc P ops bf ia pa l (pa+1),zfd ops bf l (pa+1) with | some x,some y=>some (x ++ y) | _,_=>none
def zvF (ops:Array Oper):Option (List Nat×List (Nat×Nat)):=
 let bf:=Region.before ops
 let ord:=eagerOrd P ops bf
 match zfb .any ops [] ord && zgL ops.size ord && zfb .text ops [] (List.range ops.size) && (let l:=zy4 ops ops.size 0 []; zfb .gc ops [] l && zgL ops.size l) with
 | true=>match zfd P ops bf ord 0 with | some ps=>some (ord,ps) | none=>none
 | false=>none
def zcU (r:Ex) (ops:Array Oper):List Nat->Env->AH->Option (List (Env×AH))
 | [],e,h=>some [(e,h)]
 | j :: js,e,h=>
   match ops[j]? with
   | some o=>
     match zaI ops o e with
     | some true=>
       match runOp P K r o e h with
       | some (v,h')=>match zcU r ops js (putO e o.dst v) h' with | some l=>some ((e,h) :: l) | none=>none
       | none=>none
     | some false=>match zcU r ops js (putO e o.dst zdq) h with | some l=>some ((e,h) :: l) | none=>none
     | none=>none
   | none=>none
def za6 (ops:Array Oper) (ord:List Nat) (l:List (Env×AH)) (p q:Nat):Bool:=
 match (ord[p]?).bind (ops[·]?),l[p]?,l[p+1]?,l[q]? with
 | some o,some (e,_),some (e1,_),some (_,h)=>
   match zaI ops o e with
   | some false=>true
   | some true=>match o.dst,aOp P o e h with | some d,some (v,_)=>eqV v (ev e1 (.tmp d)) | _,_=>false
   | none=>false
 | _,_,_,_=>false
def zcb (r:Ex) (ops:Array Oper) (e:Env) (h:AH):Option (Env×AH):=
 match zvF P ops with
 | some (ord,ps)=>
   match zcU P K r ops ord e h with
   | some l=>
     match ps.all (λp=>za6 P ops ord l p.1 p.2 && za6 P ops ord l p.1 (p.2+1)) with
     | true=>l.getLast?
     | false=>none
   | none=>none
 | none=>none
def zbp (r:Ex) (v:Value) (l:Nat) (h:AH):Option (Value×AH):=
 match v with
 | .func (.func g) first cap=>zbJ P K r g (first.toList ++ [Value.func (Fn.yield l) #[] #[]] ++ cap.toList) h
 | _=>none
def zfe (rd:Option Nat) (h:AH):Bool:=match rd with | none=>true | some l=>(match h.get l with | some (.loop _)=>true | _=>false)
def zct (r:Ex) (ks:List Tmp) (f:Operand) (params:List Tmp) (assign body:Code) (e:Env) (h:AH):Option (AX×Env×AH):=
 match zbp P K r (ev e f) h.next (h.alloc (.loop { state:=.ready,pending:=none,env:=e,params,assign,body,ks })) with
 | some (_,h2)=>
   match h2.get h.next with
   | some (.loop L)=>
     match L.state with
     | .busy=>none
     | _=>
       match L.pending with
       | none=>some (.normal,e,h2.del h.next)
       | some (.exit id)=>some (.exit id,e,h2.del h.next)
       | some .ret=>some (.ret,e,h2.del h.next)
       | _=>none
   | _=>none
 | none=>none
def zaK (r:Ex):Ex:=λrd ks c e h=>
 match c with
 | .skip | .label _=>some (.normal,e,h)
 | .region _ ops draw=>
   match draw with
   | false=>match zbj P K r ks ops ops.toList e h with | some (e',h')=>some (.normal,e',h') | none=>none
   | true=>match zcb P K r ops e h with | some (e',h')=>some (.normal,e',h') | none=>none
 | .seq a b=>match r rd ks a e h with | some (.normal,e',h')=>r rd ks b e' h' | x=>x
 | .cond c a b=>match ev e c with | .bool t=>cond t (r rd ks a e h) (r rd ks b e h) | _=>none
 | .block id c=>match r rd ks c e h with | some (.exit id',e',h')=>cond (Nat.beq id' id) (some (.normal,e',h')) (some (.exit id',e',h')) | x=>x
 | .loop c=>match r rd ks c e h with | some (.normal,e',h')=>r rd ks (.loop c) e' h' | x=>x
 | .scope c=>r rd ks c e h
 | .exit id=>some (.exit id,e,h)
 | .ret=>some (.ret,e,h)
 | .rangeFunc f params assign body=>match zfe rd h with | false=>none | true=>zct P K r ks f params.toList assign body e h
 | .goto _ | .refuse _=>none
def ex:Nat->Ex
 | 0=>λ_ _ _ _ _=>none
 | n+1=>zaK P K (ex n)
end
end
end Go.Am
