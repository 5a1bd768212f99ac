/-
  A FASTER MACHINE: the abstract machine over blocks that are trees. Definitions only.
-/
import Derived.Test.YtkggibodlljkcaiGreatAm5p
set_option linter.unusedVariables false
namespace Go.Am

namespace Tr
def map {α β : Type} (f : α → β) : Tr α → Tr β
  | .nil => .nil
  | .node v l r => .node (v.map f) (map f l) (map f r)
/-- A tree that has one thing at every place below 2 ^ d - 1. -/
def full {α : Type} (v : α) : Nat → Tr α
  | 0 => .nil
  | d + 1 => .node (some v) (full v d) (full v d)
/-- A cell, and on with what it is. -/
noncomputable def cellK {β : Type} (t : Tr Value) (i : Nat) (f : Value → β) : β := forceN i fun i => Option.rec (motive := fun _ => β) (f undef) f (Tr.getP (pt i) t)
noncomputable def cell (t : Tr Value) (i : Nat) : Value := cellK t i fun v => v
noncomputable def put1 (t : Tr Value) (i : Nat) (v : Value) : Tr Value := forceN i fun i => Tr.setP (some v) (pt i) t
noncomputable def setL : Tr Value → Nat → List Value → Tr Value
  | t, _, [] => t
  | t, i, v :: vs => setL (put1 t i v) (i + 1) vs
noncomputable def subL (t : Tr Value) : Nat → Nat → List Value
  | _, 0 => []
  | i, k + 1 => cellK t i fun v => v :: subL t (i + 1) k
end Tr
noncomputable def toL (t : Tr Value) (n : Nat) : List Value := t.subL 0 n

inductive FObj where
  | cells (t : Tr Value) (n : Nat) (elem : TypeId) (ro : Bool)
  | other (o : AObj)
noncomputable def FObj.abs : FObj → AObj
  | .cells t n e ro => .cells (toL t n) e ro
  | .other o => o
structure FH where
  tr : Tr FObj
  next : Nat
namespace FH
noncomputable def get (h : FH) (b : Nat) : Option FObj := forceN b fun b => Tr.getP (pt b) h.tr
noncomputable def set (h : FH) (b : Nat) (o : FObj) : FH := ⟨forceN b fun b => Tr.setP (some o) (pt b) h.tr, h.next⟩
noncomputable def del (h : FH) (b : Nat) : FH := ⟨forceN b fun b => Tr.setP none (pt b) h.tr, h.next⟩
noncomputable def alloc (h : FH) (o : FObj) : FH := forceN h.next fun n => ⟨Tr.setP (some o) (pt n) h.tr, Nat.succ n⟩
noncomputable def abs (h : FH) : AH := ⟨h.tr.map FObj.abs, h.next⟩
end FH

section
variable (P : Program)
noncomputable def fLoad (h : FH) (t : TypeId) (v : Value) : Option Value :=
  match v with
  | .pointer (some ⟨b, off, none⟩) =>
    match h.get b with
    | some (.cells c n _ _) =>
      match aggT P t with
      | some true => cond (Nat.ble (off + P.cellsOf t) n) (some (.agg (c.subL off (P.cellsOf t)).toArray)) none
      | some false => cond (Nat.blt off n) (some (c.cell off)) none
      | none => none
    | _ => none
  | _ => none
noncomputable def fStoreCells (h : FH) (b off : Nat) (vs : List Value) : Option FH :=
  match h.get b with
  | some (.cells c n e false) => cond (Nat.ble (off + vs.length) n) (some (h.set b (.cells (c.setL off vs) n e false))) none
  | _ => none
def okStore (t : TypeId) (n : Nat) : Bool := Nat.beq n (P.cellsOf t) && (P.info? t).isSome
noncomputable def fStore (h : FH) (t : TypeId) (a v : Value) : Option FH :=
  match a with
  | .pointer (some ⟨b, off, none⟩) =>
    match v with
    | .tuple _ => none
    | .agg cs => cond (okStore P t cs.size) (fStoreCells h b off cs.toList) none
    | v => cond (okStore P t 1) (fStoreCells h b off [v]) none
  | _ => none
noncomputable def fSlice (h : FH) (t : TypeId) (x : Value) (lo hi mx : Option Value) : Option Value :=
  match x with
  | .slice (some ⟨b, off, none⟩) len cap =>
    match cond (Nat.beq cap openCap) (h.get b) none with
    | some (.cells _ _ e ro) => aSlice P ⟨Tr.nil.set b (.cells [] e ro), 0⟩ t x lo hi mx
    | some (.other _) => none
    | none => aSlice P ⟨.nil, 0⟩ t x lo hi mx
  | x => aSlice P ⟨.nil, 0⟩ t x lo hi mx
noncomputable def fFirst (h : FH) (size n : Nat) : Value → Option (List Value)
  | .slice (some ⟨b, off, none⟩) len _ =>
    match n * size with
    | 0 => some []
    | _ + 1 =>
      match h.get b with
      | some (.cells c m _ _) => cond (Nat.ble n len && Nat.ble (off + n * size) m) (some (c.subL off (n * size))) none
      | _ => none
  | .slice none _ _ => some []
  | .string s => some (((s.extract 0 n).data.toList).map fun b => .int .u8 b.toNat)
  | _ => none
/-- The first n elements of a slice as a tree: the tree of its block, if it begins there. -/
noncomputable def fOld (h : FH) (size n : Nat) : Value → Option (Tr Value)
  | .slice (some ⟨b, off, none⟩) _ _ =>
    match n * size with
    | 0 => some .nil
    | _ + 1 =>
      match h.get b with
      | some (.cells c m _ _) => cond (Nat.ble (off + n * size) m) (some (cond (Nat.beq off 0) c (Tr.nil.setL 0 (c.subL off (n * size))))) none
      | _ => none
  | .slice none _ _ => cond (Nat.beq (n * size) 0) (some .nil) none
  | _ => none
noncomputable def fAppend (h : FH) (sType : TypeId) (xInt : Bool) (s x : Value) : Option (Value × FH) :=
  match P.underlying sType, s, xInt with
  | some (.slice elem), .slice base sLen sCap, false =>
    match P.info? elem, lenV x with
    | some i, some n =>
      match fOld h i.size sLen s, fFirst h i.size n x, i.zero with
      | some old, some new, some z =>
        if z.cells.size = i.size ∧ 0 < i.size ∧ new.length = n * i.size then
          if sCap = openCap then
            match base with
            | some ⟨b, _, none⟩ =>
              match h.get b with
              | some (.cells _ _ e false) =>
                if e = elem ∧ (sLen + n) * i.bytes ≤ roomMax ∧ sLen + n ≤ 9223372036854775807 then some (.slice (some ⟨h.next, 0, none⟩) (sLen + n) openCap, (h.del b).alloc (.cells (old.setL (sLen * i.size) new) (sLen * i.size + new.length) elem false)) else none
              | _ => none
            | _ => none
          else if sLen + n ≤ sCap then
            match base with
            | some ⟨b, off, none⟩ =>
              match n with
              | 0 => some (.slice base sLen sCap, h)
              | _ + 1 =>
                match fStoreCells h b (off + sLen * i.size) new with
                | some h' => some (.slice base (sLen + n) sCap, h')
                | none => none
            | none => some (.slice none (sLen + n) sCap, h)
            | _ => none
          else if sLen ≤ sCap ∧ (sLen + n) * i.bytes ≤ roomMax ∧ sLen + n ≤ 9223372036854775807 then
            some (.slice (some ⟨h.next, 0, none⟩) (sLen + n) openCap, h.alloc (.cells (old.setL (sLen * i.size) new) (sLen * i.size + new.length) elem false))
          else none
        else none
      | _, _, _ => none
    | _, _ => none
  | _, _, _ => none
/-- n times a row of zeros. -/
noncomputable def fZeros (z : List Value) (n : Nat) : Tr Value := match z with | [v] => Tr.full v (n.log2 + 1) | z => Tr.nil.setL 0 ((List.replicate n z).flatten)
noncomputable def fAppendZ (h : FH) (sType xType : TypeId) (s x : Value) : Option (Value × FH) :=
  match P.underlying sType, P.underlying xType, s, x with
  | some (.slice elem), some (.int _), .slice none 0 0, .int _ l =>
    match P.info? elem, zeroCellsOf P elem with
    | some i, some z =>
      if z.length = i.size ∧ 0 < i.size ∧ 0 < l ∧ l.toNat * i.bytes ≤ roomMax ∧ l ≤ 4611686018427387904 then
        some (.slice (some ⟨h.next, 0, none⟩) l.toNat openCap, h.alloc (.cells (fZeros z l.toNat) (l.toNat * z.length) elem false))
      else none
    | _, _ => none
  | _, _, _, _ => none
noncomputable def fCopy (h : FH) (dType : TypeId) (d s : Value) : Option (Value × FH) :=
  match P.underlying dType, d with
  | some (.slice elem), .slice base dLen _ =>
    match P.info? elem, lenV s with
    | some i, some sl =>
      match fFirst h i.size (Nat.min sl dLen) s with
      | some cells =>
        match base, cells with
        | none, _ => some (.int .i64 (Nat.min sl dLen), h)
        | some ⟨_, _, none⟩, [] => some (.int .i64 (Nat.min sl dLen), h)
        | some ⟨b, off, none⟩, c :: cs => if dLen = 0 then none else match fStoreCells h b off (c :: cs) with | some h' => some (.int .i64 (Nat.min sl dLen), h') | none => none
        | _, _ => none
      | none => none
    | _, _ => none
  | _, _ => none
noncomputable def fClear (h : FH) (t : TypeId) (x : Value) : Option (Value × FH) :=
  match P.underlying t, x with
  | some (.slice elem), .slice (some ⟨b, off, none⟩) (n + 1) _ =>
    match zeroCellsOf P elem with
    | some z => if z.length = P.cellsOf elem then match fStoreCells h b off ((List.replicate (n + 1) z).flatten) with | some h' => some (undef, h') | none => none else none
    | none => none
  | some (.slice _), .slice _ 0 _ => some (undef, h)
  | some (.slice _), .slice none _ _ => some (undef, h)
  | _, _ => none
noncomputable def fMakeSlice (h : FH) (t : TypeId) (len cap : Value) : Option (Value × FH) :=
  match P.underlying t, len, cap with
  | some (.slice elem), .int _ l, .int _ c =>
    match P.info? elem, zeroCellsOf P elem with
    | some i, some z =>
      if 0 ≤ l ∧ l ≤ c ∧ c ≤ 9223372036854775807 ∧ i.bytes * c ≤ 281474976710656 ∧ z.length = i.size then
        some (.slice (some ⟨h.next, 0, none⟩) l.toNat c.toNat, h.alloc (.cells (fZeros z c.toNat) (c.toNat * z.length) elem false))
      else none
    | _, _ => none
  | _, _, _ => none
noncomputable def fBuildSlice (h : FH) (t : TypeId) (len : Nat) (parts : Array (Nat × Value)) : Option (Value × FH) :=
  match aBuildSlice P ⟨.nil, 0⟩ t len parts with
  | some (.slice (some ⟨_, o, q⟩) n c, h1) => match h1.get 0 with | some (.cells cs e ro) => some (.slice (some ⟨h.next, o, q⟩) n c, h.alloc (.cells (Tr.nil.setL 0 cs) cs.length e ro)) | _ => none
  | _ => none
noncomputable def fConvert (h : FH) (src dst : TypeId) (x : Value) : Option (Value × FH) :=
  match P.underlying src, P.underlying dst, x with
  | some (.int _), some (.int k), .int _ n => some (.int k (k.wrap n), h)
  | some .string, some .string, .string s => some (.string s, h)
  | some .string, some (.slice e), .string s =>
    match P.underlying e with
    | some (.int .u8) => if s.size ≤ roomMax ∧ P.cellsOf e = 1 then some (.slice (some ⟨h.next, 0, none⟩) s.size openCap, h.alloc (.cells (Tr.nil.setL 0 (s.data.toList.map fun b => .int .u8 b.toNat)) s.size e false)) else none
    | _ => none
  | some (.slice e), some .string, .slice a n c =>
    match P.underlying e with
    | some (.int .u8) =>
      match fFirst h 1 n (.slice a n c) with
      | some cs => match bytesOfCells cs with | some bs => some (.string ⟨bs.toArray⟩, h) | none => none
      | none => none
    | _ => none
  | some (.slice _), some (.slice e2), .slice (some ⟨b, off, none⟩) n c =>
    match P.underlying e2, h.get b with
    | some (.int .u8), some (.cells cs m e false) => if src = dst then some (.slice (some ⟨b, off, none⟩) n c, h.set b (.cells cs m e false)) else none
    | _, _ => none
  | _, _, _ => none
noncomputable def fLookup (h : FH) (t : TypeId) (m k : Value) (ok : Bool) : Option Value :=
  match m with
  | .map (some r) => match h.get r with | some (.other (.map es c)) => aLookup P ⟨Tr.nil.set r (.map es c), 0⟩ t m k ok | _ => none
  | m => aLookup P ⟨.nil, 0⟩ t m k ok
noncomputable def fMapUpdate (h : FH) (t : TypeId) (m k v : Value) : Option FH :=
  match P.underlying t, m with
  | some (.map kt _), .map (some r) =>
    match keyT P kt, keyA P kt k, h.get r with
    | true, some la, some (.other (.map es clock)) =>
      match findA P kt la es 0 with
      | some (some (i, _)) => some (h.set r (.other (.map (es.modify i fun e => { e with key := k, val := v }) clock)))
      | some none => some (h.set r (.other (.map (es ++ [{ key := k, val := v, born := clock }]) (clock + 1))))
      | none => none
    | _, _, _ => none
  | _, _ => none
noncomputable def fDelete (h : FH) (t : TypeId) (m k : Value) : Option (Value × FH) :=
  match P.underlying t, m with
  | some (.map kt _), .map (some r) =>
    match keyT P kt, keyA P kt k, h.get r with
    | true, some la, some (.other (.map es clock)) =>
      match findA P kt la es 0 with
      | some (some (i, _)) => some (undef, h.set r (.other (.map (es.eraseIdx i) clock)))
      | some none => some (undef, h.set r (.other (.map es clock)))
      | none => none
    | _, _, _ => none
  | _, _ => none
noncomputable def fLen (h : FH) (t : TypeId) (x : Value) : Option Value :=
  match x with
  | .map (some r) => match h.get r with | some (.other (.map es c)) => aLen P ⟨Tr.nil.set r (.map es c), 0⟩ t x | _ => none
  | x => aLen P ⟨.nil, 0⟩ t x
noncomputable def fBuiltin (h : FH) (b : Builtin) (argTypes : Array TypeId) (args : List Value) : Option (Value × FH) :=
  match b, argTypes.toList, args with
  | .len, [t], [x] => (fLen P h t x).map (·, h)
  | .cap, [t], [x] => (aCap P t x).map (·, h)
  | .append, [st, xt], [s, x] => match P.underlying xt with | some (.int _) => fAppendZ P h st xt s x | _ => fAppend P h st (match P.underlying xt with | some (.slice _) | some .string => false | _ => true) s x
  | .copy, t :: _, [d, s] => fCopy P h t d s
  | .clear, t :: _, [x] => fClear P h t x
  | .delete, t :: _, [m, k] => fDelete P h t m k
  | .min, _, args => (aMinMax false args).map (·, h)
  | .max, _, args => (aMinMax true args).map (·, h)
  | _, _, _ => none
/-- Where an operation looks at no block and changes none. -/
def calm (o : Op) : Bool :=
  match o with
  | .move _ | .assign _ | .pick _ _ _ | .build _ _ | .nilCheck _ | .binOp _ _ _ _ _ | .unOp _ _ _ | .makeFunc _ _ _
  | .fieldAddr _ _ _ | .field _ _ _ | .indexAddr _ _ _ | .index _ _ _ | .extract _ _ => true
  | _ => false
noncomputable def fZero (t : TypeId) : Option (Tr Value × Nat) := match zeroCellsOf P t with | some z => some (Tr.nil.setL 0 z, z.length) | none => none
noncomputable def fOp (o : Oper) (e : Env) (h : FH) : Option (Value × FH) :=
  match o.op with
  | .alloc t => match fZero P t with | some (c, n) => some (ptr h.next 0, h.alloc (.cells c n t false)) | none => none
  | .box t x => match ev e x with | .tuple _ => none | v => some (ptr h.next 0, h.alloc (.cells (Tr.nil.setL 0 v.cells.toList) v.cells.toList.length t false))
  | .buildSlice t n parts => fBuildSlice P h t n (parts.map fun (i, x) => (i, ev e x))
  | .load t a => (fLoad P h t (ev e a)).map (·, h)
  | .store t a v => (fStore P h t (ev e a) (ev e v)).map (undef, ·)
  | .convert s d x => fConvert P h s d (ev e x)
  | .makeMap _ r => match r with | none => some (.map (some h.next), h.alloc (.other (.map [] 0))) | some _ => none
  | .makeSlice t l c => fMakeSlice P h t (ev e l) (ev e c)
  | .slice t x lo hi mx => (fSlice P h t (ev e x) (lo.map (ev e)) (hi.map (ev e)) (mx.map (ev e))).map (·, h)
  | .lookup t m k ok => (fLookup P h t (ev e m) (ev e k) ok).map (·, h)
  | .mapUpdate t m k v => (fMapUpdate P h t (ev e m) (ev e k) (ev e v)).map (undef, ·)
  | .range t x => match P.underlying t, ev e x with | some .string, .string s => some (ptr h.next 0, h.alloc (.other (.siter s 0))) | _, _ => none
  | .next it true =>
    match ev e it with
    | .pointer (some ⟨r, 0, none⟩) =>
      match h.get r with
      | some (.other (.siter s pos)) =>
        if pos < s.size then some (.tuple #[.bool true, .int .i64 pos, .int .i32 (Utf8.decode s pos).1], h.set r (.other (.siter s (pos + (Utf8.decode s pos).2)))) else some (.tuple #[.bool false], h)
      | _ => none
    | _ => none
  | .call { callee := .builtin b, args, argTypes } => fBuiltin P h b argTypes (args.toList.map (ev e))
  | x => match calm x with | true => (match aOp P o e ⟨.nil, 0⟩ with | some (v, _) => some (v, h) | none => none) | false => none

/-- The functions that are told here: those without a body look at no block. -/
inductive FF where
  | ext (g : List Value → Option Value)
  | sum (g : List Value → FH → Option (Value × FH))
abbrev Fs := FuncId → Option FF
abbrev FEx := Option Nat → Code → Env → FH → Option (AX × Env × FH)
variable (F : Fs)
noncomputable def fResult (e : Env) (h : FH) : ResultVar → Option Value
  | .tmp t => some (ev e (.tmp t))
  | .cell a t => fLoad P h t (ev e (.tmp a))
noncomputable def fResultL (e : Env) (h : FH) : List ResultVar → Option (List Value)
  | [] => some []
  | r :: rs => match fResult P e h r with | some v => (match fResultL e h rs with | some vs => some (v :: vs) | none => none) | none => none
noncomputable def fResults (e : Env) (h : FH) (rs : List ResultVar) : Option Value :=
  match fResultL P e h rs with
  | some [v] => some v
  | some vs => some (.tuple vs.toArray)
  | none => none
noncomputable def fbodyF (r : FEx) (f : FuncId) (args : List Value) (h : FH) : Option (Value × FH) :=
  match P.funcs[f]? with
  | some fn =>
    match fn.body with
    | some c =>
      match r none c (Tr.ofList args) h with
      | some (.normal, e', h') | some (.ret, e', h') => match fResults P e' h' fn.results.toList with | some v => some (v, h') | none => none
      | _ => none
    | none => none
  | none => none
noncomputable def fcallF (r : FEx) (f : FuncId) (args : List Value) (h : FH) : Option (Value × FH) :=
  match F f with
  | some (.sum g) => g args h
  | some (.ext _) => none
  | none => fbodyF P r f args h
noncomputable def fcallX (r : FEx) (f : FuncId) (args : List Value) (h : FH) : Option (Value × FH) :=
  match F f with
  | some (.ext g) => match g args with | some v => some (v, h) | none => none
  | some (.sum g) => g args h
  | none => fbodyF P r f args h
noncomputable def fyieldF (r : FEx) (l : Nat) (args : List Value) (h : FH) : Option (Value × FH) :=
  match h.get l with
  | some (.other (.loop L)) =>
    if args.length = L.params.length then
      match r (some l) L.assign (putAll L.env L.params args) h with
      | some (.normal, e2, h2) =>
        match h2.get l with
        | some (.other (.loop L2)) =>
          if L2.state = .ready then
            match r (some l) L.body e2 (h2.set l (.other (.loop { L2 with state := .busy }))) with
            | some (x, _, h4) =>
              match h4.get l with
              | some (.other (.loop L4)) =>
                match x with
                | .normal => some (.bool true, h4.set l (.other (.loop { L4 with state := .ready, pending := none })))
                | .exit id => some (.bool false, h4.set l (.other (.loop { L4 with state := .done, pending := some (.exit id) })))
                | .ret => some (.bool false, h4.set l (.other (.loop { L4 with state := .done, pending := some .ret })))
              | _ => none
            | none => none
          else none
        | _ => none
      | _ => none
    else none
  | _ => none
noncomputable def finvokeF (r : FEx) (v : Value) (args : List Value) (h : FH) : Option (Value × FH) :=
  match v with
  | .func (.func f) first cap => fcallX P F r f (first.toList ++ args ++ cap.toList) h
  | .func (.yield l) first _ => fyieldF r l (first.toList ++ args) h
  | _ => none
noncomputable def frunOp (r : FEx) (o : Oper) (e : Env) (h : FH) : Option (Value × FH) :=
  match o.op with
  | .call { callee := .value f, args, .. } => finvokeF P F r (ev e f) (args.toList.map (ev e)) h
  | _ => fOp P o e h
noncomputable def frunOps (r : FEx) (ops : Array Oper) : List Oper → Env → FH → Option (Env × FH)
  | [], e, h => some (e, h)
  | o :: os, e, h =>
    match wantedA ops o e with
    | some true =>
      match frunOp P F r o e h with
      | some (v, h') => frunOps r ops os (putO e o.dst v) h'
      | none => none
    | some false => frunOps r ops os (putO e o.dst undef) h
    | none => none
noncomputable def frunJ (r : FEx) (ops : Array Oper) : List Nat → Env → FH → Option (Env × FH)
  | [], e, h => some (e, h)
  | j :: js, e, h =>
    match ops[j]? with
    | some o =>
      match wantedA ops o e with
      | some true =>
        match frunOp P F r o e h with
        | some (v, h') => frunJ r ops js (putO e o.dst v) h'
        | none => none
      | some false => frunJ r ops js (putO e o.dst undef) h
      | none => none
    | none => none
noncomputable def frunL (r : FEx) (ops : Array Oper) : List Nat → Env → FH → Option (List (Env × FH))
  | [], e, h => some [(e, h)]
  | j :: js, e, h =>
    match ops[j]? with
    | some o =>
      match wantedA ops o e with
      | some true =>
        match frunOp P F r o e h with
        | some (v, h') => match frunL r ops js (putO e o.dst v) h' with | some l => some ((e, h) :: l) | none => none
        | none => none
      | some false => match frunL r ops js (putO e o.dst undef) h with | some l => some ((e, h) :: l) | none => none
      | none => none
    | none => none
noncomputable def frereadAt (ops : Array Oper) (ord : List Nat) (l : List (Env × FH)) (p q : Nat) : Bool :=
  match (ord[p]?).bind (ops[·]?), l[p]?, l[p + 1]?, l[q]? with
  | some o, some (e, _), some (e1, _), some (_, h) =>
    match wantedA ops o e with
    | some false => true
    | some true => match o.dst, fOp P o e h with | some d, some (v, _) => eqV v (ev e1 (.tmp d)) | _, _ => false
    | none => false
  | _, _, _, _ => false
noncomputable def fexDraw (r : FEx) (ops : Array Oper) (e : Env) (h : FH) : Option (Env × FH) :=
  match plan P ops with
  | some (ord, ps) =>
    match ps with
    | [] => frunJ P F r ops ord e h
    | p :: ps =>
      match frunL P F r ops ord e h with
      | some l =>
        match (p :: ps).all (fun p => frereadAt P ops ord l p.1 p.2 && frereadAt P ops ord l p.1 (p.2 + 1)) with
        | true => l.getLast?
        | false => none
      | none => none
  | none => none
noncomputable def frangeCall (r : FEx) (v : Value) (l : Nat) (h : FH) : Option (Value × FH) :=
  match v with
  | .func (.func g) first cap => fcallF P F r g (first.toList ++ [Value.func (Fn.yield l) #[] #[]] ++ cap.toList) h
  | _ => none
noncomputable def faroundOk (rd : Option Nat) (h : FH) : Bool := match rd with | none => true | some l => (match h.get l with | some (.other (.loop _)) => true | _ => false)
noncomputable def fexRange (r : FEx) (f : Operand) (params : List Tmp) (assign body : Code) (e : Env) (h : FH) : Option (AX × Env × FH) :=
  match frangeCall P F r (ev e f) h.next (h.alloc (.other (.loop { state := .ready, pending := none, env := e, params, assign, body, ks := [] }))) with
  | some (_, h2) =>
    match h2.get h.next with
    | some (.other (.loop L)) =>
      match L.state with
      | .busy => none
      | _ =>
        match L.pending with
        | none => some (.normal, e, h2.del h.next)
        | some (.exit id) => some (.exit id, e, h2.del h.next)
        | some .ret => some (.ret, e, h2.del h.next)
        | _ => none
    | _ => none
  | none => none
noncomputable def fexStep (r : FEx) : FEx := fun rd c e h =>
  match c with
  | .skip | .label _ => some (.normal, e, h)
  | .region _ ops draw =>
    match draw with
    | false => match frunOps P F r ops ops.toList e h with | some (e', h') => some (.normal, e', h') | none => none
    | true => match fexDraw P F r ops e h with | some (e', h') => some (.normal, e', h') | none => none
  | .seq a b => match r rd a e h with | some (.normal, e', h') => r rd b e' h' | x => x
  | .cond c a b => match ev e c with | .bool t => cond t (r rd a e h) (r rd b e h) | _ => none
  | .block id c => match r rd c e h with | some (.exit id', e', h') => cond (Nat.beq id' id) (some (.normal, e', h')) (some (.exit id', e', h')) | x => x
  | .loop c => match r rd c e h with | some (.normal, e', h') => r rd (.loop c) e' h' | x => x
  | .scope c => r rd c e h
  | .exit id => some (.exit id, e, h)
  | .ret => some (.ret, e, h)
  | .rangeFunc f params assign body => match faroundOk rd h with | false => none | true => fexRange P F r f params.toList assign body e h
  | .goto _ | .refuse _ => none
noncomputable def fex : Nat → FEx
  | 0 => fun _ _ _ _ => none
  | n + 1 => fexStep P F (fex n)
end
def isTrueF : Option (Value × FH) → Bool
  | some (.bool true, _) => true
  | _ => false
end Go.Am
