/-
  The abstract machine: blocks as lists, no tape, no capacities of grown slices; an evaluator of the model's code over it. Definitions only, and the tree that holds blocks and slots.
-/
import Derived.Control
import Derived.Calls
import Derived.DeepKeys3
namespace Go.Am

/-! ## A tree with places -/
inductive Tr (α : Type) where
  | nil
  | node (v : Option α) (l r : Tr α)

theorem beq_f {n m : Nat} (h : n ≠ m) : Nat.beq n m = false := by
  cases e : Nat.beq n m
  · rfl
  · exact absurd (Nat.eq_of_beq_eq_true e) h
theorem beq_t {n m : Nat} (h : n = m) : Nat.beq n m = true := by subst h; exact Nat.beq_refl n

namespace Tr
variable {α : Type}
def get : Tr α → Nat → Option α
  | .nil, _ => none
  | .node v l r, n => cond (Nat.beq n 0) v (cond (Nat.beq (n % 2) 1) (l.get (n / 2)) (r.get (n / 2 - 1)))
def setF (v : Option α) : Nat → Tr α → Nat → Tr α
  | 0, t, _ => t
  | f + 1, .nil, n => cond (Nat.beq n 0) (.node v .nil .nil) (cond (Nat.beq (n % 2) 1) (.node none (setF v f .nil (n / 2)) .nil) (.node none .nil (setF v f .nil (n / 2 - 1))))
  | f + 1, .node u l r, n => cond (Nat.beq n 0) (.node v l r) (cond (Nat.beq (n % 2) 1) (.node u (setF v f l (n / 2)) r) (.node u l (setF v f r (n / 2 - 1))))
def set (t : Tr α) (n : Nat) (v : α) : Tr α := setF (some v) (n + 1) t n
def del (t : Tr α) (n : Nat) : Tr α := setF none (n + 1) t n
theorem get_nil (n : Nat) : (Tr.nil : Tr α).get n = none := rfl
theorem get_setF (v : Option α) : ∀ (f : Nat) (t : Tr α) (n m : Nat), n < f → (setF v f t n).get m = if m = n then v else t.get m := by
  intro f
  induction f with
  | zero => intro t n m h; omega
  | succ f ih =>
    intro t n m h
    have key : ∀ (u : Option α) (l r : Tr α), (cond (Nat.beq n 0) (.node v l r) (cond (Nat.beq (n % 2) 1) (.node u (setF v f l (n / 2)) r) (.node u l (setF v f r (n / 2 - 1)))) : Tr α).get m = if m = n then v else (Tr.node u l r).get m := by
      intro u l r
      by_cases h0 : n = 0
      · subst h0
        by_cases hm : m = 0
        · subst hm; simp [get]
        · have : Nat.beq m 0 = false := beq_f hm
          simp [get, this, hm]
      · have hb0 : Nat.beq n 0 = false := beq_f h0
        by_cases h1 : n % 2 = 1
        · have hb1 : Nat.beq (n % 2) 1 = true := beq_t h1
          simp only [hb0, hb1, cond_false, cond_true, get]
          by_cases hm0 : m = 0
          · subst hm0
            have : ¬ (0 = n) := fun e => h0 e.symm
            simp [this]
          · have hbm : Nat.beq m 0 = false := beq_f hm0
            simp only [hbm, cond_false]
            by_cases hm1 : m % 2 = 1
            · have hbm1 : Nat.beq (m % 2) 1 = true := beq_t hm1
              simp only [hbm1, cond_true]
              rw [ih l (n / 2) (m / 2) (by omega)]
              by_cases e : m = n
              · subst e; simp
              · rw [if_neg e, if_neg (by omega)]
            · have hbm1 : Nat.beq (m % 2) 1 = false := beq_f hm1
              simp only [hbm1, cond_false]
              rw [if_neg (by omega)]
        · have hb1 : Nat.beq (n % 2) 1 = false := beq_f h1
          simp only [hb0, hb1, cond_false, get]
          by_cases hm0 : m = 0
          · subst hm0
            have : ¬ (0 = n) := fun e => h0 e.symm
            simp [this]
          · have hbm : Nat.beq m 0 = false := beq_f hm0
            simp only [hbm, cond_false]
            by_cases hm1 : m % 2 = 1
            · have hbm1 : Nat.beq (m % 2) 1 = true := beq_t hm1
              simp only [hbm1, cond_true]
              rw [if_neg (by omega)]
            · have hbm1 : Nat.beq (m % 2) 1 = false := beq_f hm1
              simp only [hbm1, cond_false]
              rw [ih r (n / 2 - 1) (m / 2 - 1) (by omega)]
              by_cases e : m = n
              · subst e; simp
              · rw [if_neg e, if_neg (by omega)]
    cases t with
    | nil =>
      have hk := key none .nil .nil
      have hn : (Tr.node none .nil .nil : Tr α).get m = none := by
        simp only [get]
        cases Nat.beq m 0 <;> cases Nat.beq (m % 2) 1 <;> rfl
      rw [hn] at hk
      exact hk
    | node u l r => exact key u l r
theorem get_set (t : Tr α) (n m : Nat) (v : α) : (t.set n v).get m = if m = n then some v else t.get m := get_setF _ _ _ _ _ (Nat.lt_succ_self n)
theorem get_del (t : Tr α) (n m : Nat) : (t.del n).get m = if m = n then none else t.get m := get_setF _ _ _ _ _ (Nat.lt_succ_self n)
def ofList (l : List α) : Tr α := (l.foldl (fun (p : Tr α × Nat) v => (p.1.set p.2 v, p.2 + 1)) (.nil, 0)).1
theorem ofList_aux (l : List α) : ∀ (t : Tr α) (n m : Nat), ((l.foldl (fun (p : Tr α × Nat) v => (p.1.set p.2 v, p.2 + 1)) (t, n)).1).get m = if m < n then t.get m else (l[m - n]?).or (t.get m) := by
  induction l with
  | nil => intro t n m; simp
  | cons v l ih =>
    intro t n m
    simp only [List.foldl_cons]
    rw [ih, get_set]
    by_cases h : m < n
    · rw [if_pos (by omega), if_neg (by omega), if_pos h]
    · rw [if_neg h]
      by_cases e : m = n
      · subst e; simp
      · rw [if_neg (by omega), if_neg e]
        obtain ⟨k, hk⟩ : ∃ k, m - n = k + 1 := ⟨m - n - 1, by omega⟩
        rw [hk, show m - (n + 1) = k by omega]
        simp
theorem get_ofList (l : List α) (m : Nat) : (ofList l).get m = l[m]? := by
  unfold ofList
  rw [ofList_aux]
  simp [get]
end Tr

/-! ## Blocks -/
/-- The capacity of a slice that an append has grown: not known. -/
def openCap : Nat := 18446744073709551616

inductive LState where
  | ready | busy | done | over
  deriving DecidableEq

structure ALoop where
  state : LState
  pending : Option Code
  env : Tr Value
  params : List Tmp
  assign : Code
  body : Code
  ks : List Tmp

inductive AObj where
  | cells (cs : List Value) (elem : TypeId) (ro : Bool)
  | map (es : List MapEntry) (clock : Nat)
  | siter (s : ByteArray) (pos : Nat)
  | loop (l : ALoop)

structure AH where
  tr : Tr AObj
  next : Nat

namespace AH
def get (h : AH) (b : Nat) : Option AObj := h.tr.get b
def set (h : AH) (b : Nat) (o : AObj) : AH := { h with tr := h.tr.set b o }
def del (h : AH) (b : Nat) : AH := { h with tr := h.tr.del b }
def alloc (h : AH) (o : AObj) : AH := { tr := h.tr.set h.next o, next := h.next + 1 }
theorem get_set (h : AH) (b c : Nat) (o : AObj) : (h.set b o).get c = if c = b then some o else h.get c := Tr.get_set _ _ _ _
theorem get_del (h : AH) (b c : Nat) : (h.del b).get c = if c = b then none else h.get c := Tr.get_del _ _ _
theorem get_alloc (h : AH) (c : Nat) (o : AObj) : (h.alloc o).get c = if c = h.next then some o else h.get c := Tr.get_set _ _ _ _
@[simp] theorem next_set (h : AH) (b : Nat) (o : AObj) : (h.set b o).next = h.next := rfl
@[simp] theorem next_del (h : AH) (b : Nat) : (h.del b).next = h.next := rfl
@[simp] theorem next_alloc (h : AH) (o : AObj) : (h.alloc o).next = h.next + 1 := rfl
end AH

/-! ## Slots -/
abbrev Env := Tr Value
def plainV : Value → Bool
  | .bool _ | .int _ _ | .string _ | .pointer none | .slice none 0 0 | .map none | .nilFunc | .nilIface => true
  | _ => false
def ev (e : Env) : Operand → Value
  | .tmp t => (e.get t).getD undef
  | .const v => cond (plainV v) v undef
  | .global _ => undef
  | .func f => .func (.func f) #[] #[]
def putO (e : Env) (d : Option Tmp) (v : Value) : Env := match d with | some t => e.set t v | none => e
def putAll (e : Env) : List Tmp → List Value → Env
  | t :: ts, v :: vs => putAll (e.set t v) ts vs
  | _, _ => e

section
variable (P : Program)

/-! ## Memory -/
def isMulti : Value → Bool
  | .agg _ | .tuple _ => true
  | _ => false
/-- Is a type's value made of parts? -/
def aggT (t : TypeId) : Option Bool := match P.underlying t with | some (.struct _) | some (.array _ _) => some true | some _ => some false | none => none
def ptr (b off : Nat) : Value := .pointer (some ⟨b, off, none⟩)
def aNew (h : AH) (e : TypeId) (cs : List Value) : Value × AH := (ptr h.next 0, h.alloc (.cells cs e false))
def aLoad (h : AH) (t : TypeId) (v : Value) : Option Value :=
  match v with
  | .pointer (some ⟨b, off, none⟩) =>
    match h.get b with
    | some (.cells cs _ _) =>
      match aggT P t with
      | some true => if off + P.cellsOf t ≤ cs.length then some (.agg ((cs.drop off).take (P.cellsOf t)).toArray) else none
      | some false => cs[off]?
      | none => none
    | _ => none
  | _ => none
def aStoreCells (h : AH) (b off : Nat) (vs : List Value) : Option AH :=
  match h.get b with
  | some (.cells cs e false) => if off + vs.length ≤ cs.length then some (h.set b (.cells (cs.take off ++ vs ++ cs.drop (off + vs.length)) e false)) else none
  | _ => none
def aStore (h : AH) (t : TypeId) (a v : Value) : Option AH :=
  match a, v with
  | _, .tuple _ => none
  | .pointer (some ⟨b, off, none⟩), v => if v.cells.size = P.cellsOf t ∧ (P.info? t).isSome = true then aStoreCells h b off v.cells.toList else none
  | _, _ => none
def aFieldAddr (s : TypeId) (x : Value) (f : Nat) : Option Value :=
  match P.underlying s with
  | some (.struct fs) =>
    match fs[f]?, x with
    | some fd, .pointer (some ⟨b, off, none⟩) => if P.cellsOf fd.type = 0 then none else some (ptr b (off + fd.offset))
    | _, _ => none
  | _ => none
/-- The places of a slice: its block and offset, if it has one. -/
def aIndexAddr (t : TypeId) (x i : Value) : Option Value :=
  match P.underlying t, x, i with
  | some (.array n elem), .pointer (some ⟨b, off, none⟩), .int _ j => if 0 ≤ j ∧ j < n ∧ (P.info? elem).isSome = true then some (ptr b (off + j.toNat * P.cellsOf elem)) else none
  | some (.slice elem), .slice (some ⟨b, off, none⟩) n _, .int _ j => if 0 ≤ j ∧ j < n ∧ (P.info? elem).isSome = true then some (ptr b (off + j.toNat * P.cellsOf elem)) else none
  | _, _, _ => none
def aPart (t : TypeId) (cs : Array Value) (off : Nat) : Option Value :=
  match aggT P t with
  | some true => some (.agg (cs.extract off (off + P.cellsOf t)))
  | some false => cs[off]?
  | none => none
def aIndex (t : TypeId) (x i : Value) : Option Value :=
  match P.underlying t, x, i with
  | some (.array n elem), .agg cs, .int _ j => if 0 ≤ j ∧ j < n ∧ (P.info? elem).isSome = true then aPart P elem cs (j.toNat * P.cellsOf elem) else none
  | some .string, .string s, .int _ j => if 0 ≤ j then (s[j.toNat]?).map fun b => .int .u8 b.toNat else none
  | _, _, _ => none
def aField (t : TypeId) (x : Value) (f : Nat) : Option Value :=
  match P.underlying t, x with
  | some (.struct fs), .agg cs => match fs[f]? with | some fd => aPart P fd.type cs fd.offset | none => none
  | _, _ => none
def zeroCellsOf (t : TypeId) : Option (List Value) := match cond (Nat.blt t P.types.size) (P.info? t) none with | some i => (match i.zero with | some (.tuple _) => none | some z => some z.cells.toList | none => none) | none => none

/-! ### Slices -/
def boundOf (x : Value) (y : Nat) : Option Nat := match x with | .int _ i => if 0 ≤ i ∧ i ≤ y then some i.toNat else none | _ => none
/-- Bounds of a slice expression: lower, upper, greatest. -/
def aBounds (len cap : Nat) (lo hi mx : Option Value) : Option (Nat × Nat × Nat) :=
  match (match mx with | some v => boundOf v cap | none => some cap) with
  | none => none
  | some m =>
    match (match hi, mx with | some v, _ => boundOf v m | none, none => some len | none, some _ => none) with
    | none => none
    | some hh =>
      match (match lo with | some v => boundOf v hh | none => some 0) with
      | none => none
      | some l => some (l, hh, m)
def aSlice (h : AH) (t : TypeId) (x : Value) (lo hi mx : Option Value) : Option Value :=
  match P.underlying t, x with
  | some (.array n elem), .pointer (some ⟨b, off, none⟩) =>
    match aBounds n n lo hi mx with
    | some (l, hh, m) => if (P.info? elem).isSome = true ∧ n < openCap then some (.slice (some ⟨b, if m = l then off else off + l * P.cellsOf elem, none⟩) (hh - l) (m - l)) else none
    | none => none
  | some (.pointer arr), .pointer (some ⟨b, off, none⟩) =>
    match P.underlying arr with
    | some (.array n elem) =>
      match aBounds n n lo hi mx with
      | some (l, hh, m) => if (P.info? elem).isSome = true ∧ n < openCap then some (.slice (some ⟨b, if m = l then off else off + l * P.cellsOf elem, none⟩) (hh - l) (m - l)) else none
      | none => none
    | _ => none
  | some .string, .string s =>
    match mx, aBounds s.size s.size lo hi none with
    | none, some (l, hh, _) => some (.string (s.extract l hh))
    | _, _ => none
  | some (.slice elem), .slice none len cap =>
    match aBounds len cap lo hi mx with
    | some (l, hh, m) => if (P.info? elem).isSome = true ∧ cap < openCap then some (.slice none (hh - l) (m - l)) else none
    | none => none
  | some (.slice elem), .slice (some ⟨b, off, none⟩) len cap =>
    if (P.info? elem).isSome = true then
      if cap = openCap then
        match aBounds len len lo hi mx, h.get b with
        | some (l, hh, m), some (.cells _ e _) =>
          match mx with
          | none => if P.cellsOf e = P.cellsOf elem then some (.slice (some ⟨b, off + l * P.cellsOf elem, none⟩) (hh - l) openCap) else none
          | some _ => if 0 < len then some (.slice (some ⟨b, if m = l then off else off + l * P.cellsOf elem, none⟩) (hh - l) (m - l)) else none
        | _, _ => none
      else if cap < openCap then
        match aBounds len cap lo hi mx with
        | some (l, hh, m) => some (.slice (some ⟨b, if m = l then off else off + l * P.cellsOf elem, none⟩) (hh - l) (m - l))
        | none => none
      else none
    else none
  | _, _ => none
def lenV : Value → Option Nat
  | .slice _ n _ => some n
  | .string s => some s.size
  | _ => none
/-- The cells of the first n elements. -/
def firstC (h : AH) (size n : Nat) : Value → Option (List Value)
  | .slice (some ⟨b, off, none⟩) len _ =>
    match n * size with
    | 0 => some []
    | _ + 1 =>
      match h.get b with
      | some (.cells cs _ _) => if n ≤ len ∧ off + n * size ≤ cs.length then some ((cs.drop off).take (n * size)) else none
      | _ => none
  | .slice none _ _ => some []
  | .string s => some (((s.extract 0 n).data.toList).map fun b => .int .u8 b.toNat)
  | _ => none
/-- The bytes that a slice may take. -/
def roomMax : Nat := 140737488355328
def aAppend (h : AH) (sType : TypeId) (xInt : Bool) (s x : Value) : Option (Value × AH) :=
  match P.underlying sType, s, xInt with
  | some (.slice elem), .slice base sLen sCap, false =>
    match P.info? elem, lenV x with
    | some i, some n =>
      match firstC h i.size sLen s, firstC h i.size n x, i.zero with
      | some old, some new, some z =>
        if z.cells.size = i.size ∧ 0 < i.size ∧ new.length = n * i.size ∧ old.length = sLen * i.size then
          if sCap = openCap then
            match base with
            | some ⟨b, _, none⟩ =>
              match h.get b with
              | some (.cells _ e false) =>
                if e = elem ∧ (sLen + n) * i.bytes ≤ roomMax ∧ sLen + n ≤ 9223372036854775807 then some (.slice (some ⟨h.next, 0, none⟩) (sLen + n) openCap, (h.del b).alloc (.cells (old ++ new) elem false)) else none
              | _ => none
            | _ => none
          else if sLen + n ≤ sCap then
            match base with
            | some ⟨b, off, none⟩ =>
              match n with
              | 0 => some (.slice base sLen sCap, h)
              | _ + 1 =>
                match aStoreCells h b (off + sLen * i.size) new with
                | some h' => some (.slice base (sLen + n) sCap, h')
                | none => none
            | none => some (.slice none (sLen + n) sCap, h)
            | _ => none
          else if sLen ≤ sCap ∧ (sLen + n) * i.bytes ≤ roomMax ∧ sLen + n ≤ 9223372036854775807 then
            some (.slice (some ⟨h.next, 0, none⟩) (sLen + n) openCap, h.alloc (.cells (old ++ new) elem false))
          else none
        else none
      | _, _, _ => none
    | _, _ => none
  | _, _, _ => none
/-- An append of so many zeros to nothing. -/
def aAppendZ (h : AH) (sType xType : TypeId) (s x : Value) : Option (Value × AH) :=
  match P.underlying sType, P.underlying xType, s, x with
  | some (.slice elem), some (.int _), .slice none 0 0, .int _ l =>
    match P.info? elem, zeroCellsOf P elem with
    | some i, some z =>
      if z.length = i.size ∧ 0 < i.size ∧ 0 < l ∧ l.toNat * i.bytes ≤ roomMax ∧ l ≤ 4611686018427387904 then
        some (.slice (some ⟨h.next, 0, none⟩) l.toNat openCap, h.alloc (.cells ((List.replicate l.toNat z).flatten) elem false))
      else none
    | _, _ => none
  | _, _, _, _ => none
def aCopy (h : AH) (dType : TypeId) (d s : Value) : Option (Value × AH) :=
  match P.underlying dType, d with
  | some (.slice elem), .slice base dLen _ =>
    match P.info? elem, lenV s with
    | some i, some sl =>
      match firstC h i.size (Nat.min sl dLen) s with
      | some cells =>
        match base, cells with
        | none, _ => some (.int .i64 (Nat.min sl dLen), h)
        | some ⟨_, _, none⟩, [] => some (.int .i64 (Nat.min sl dLen), h)
        | some ⟨b, off, none⟩, c :: cs => if dLen = 0 then none else match aStoreCells h b off (c :: cs) with | some h' => some (.int .i64 (Nat.min sl dLen), h') | none => none
        | _, _ => none
      | none => none
    | _, _ => none
  | _, _ => none
def aClear (h : AH) (t : TypeId) (x : Value) : Option (Value × AH) :=
  match P.underlying t, x with
  | some (.slice elem), .slice (some ⟨b, off, none⟩) (n + 1) _ =>
    match zeroCellsOf P elem with
    | some z => if z.length = P.cellsOf elem then match aStoreCells h b off ((List.replicate (n + 1) z).flatten) with | some h' => some (undef, h') | none => none else none
    | none => none
  | some (.slice _), .slice _ 0 _ => some (undef, h)
  | some (.slice _), .slice none _ _ => some (undef, h)
  | _, _ => none
def aMakeSlice (h : AH) (t : TypeId) (len cap : Value) : Option (Value × AH) :=
  match P.underlying t, len, cap with
  | some (.slice elem), .int _ l, .int _ c =>
    match P.info? elem, zeroCellsOf P elem with
    | some i, some z =>
      if 0 ≤ l ∧ l ≤ c ∧ c ≤ 9223372036854775807 ∧ i.bytes * c ≤ 281474976710656 ∧ z.length = i.size then
        some (.slice (some ⟨h.next, 0, none⟩) l.toNat c.toNat, h.alloc (.cells ((List.replicate c.toNat z).flatten) elem false))
      else none
    | _, _ => none
  | _, _, _ => none
def isTup : Value → Bool
  | .tuple _ => true
  | _ => false
def aBuild (t : TypeId) (parts : Array (Nat × Value)) : Option Value :=
  if parts.toList.any (fun p => isTup p.2) then none else
  match zeroCellsOf P t, P.underlying t with
  | some z, some (.struct fields) =>
    if fields.toList.all (fun f => (P.info? f.type).isSome) then (Instr.fill (fun i => (fields[i]?).map fun f => (f.offset, P.cellsOf f.type)) z.toArray parts.toList).map .agg else none
  | some z, some (.array _ elem) =>
    if (P.info? elem).isSome = true then (Instr.fill (fun i => some (i * P.cellsOf elem, P.cellsOf elem)) z.toArray parts.toList).map .agg else none
  | _, _ => none
def aBuildSlice (h : AH) (t : TypeId) (len : Nat) (parts : Array (Nat × Value)) : Option (Value × AH) :=
  if parts.toList.any (fun p => isTup p.2) then none else
  match P.underlying t with
  | some (.slice elem) =>
    match P.info? elem, zeroCellsOf P elem with
    | some i, some z =>
      if len * i.size ≤ 16777216 ∧ z.length = i.size ∧ len < openCap then
        match Instr.fill (fun j => some (j * i.size, i.size)) ((List.replicate len z).flatten).toArray parts.toList with
        | some cs => some (.slice (some ⟨h.next, 0, none⟩) len len, h.alloc (.cells cs.toList elem false))
        | none => none
      else none
    | _, _ => none
  | _ => none

/-! ### Operators -/
def litEq : Lit → Lit → Bool
  | .bool a, .bool b => a == b
  | .int j a, .int k b => decide (j = k) && a == b
  | .float j a, .float k b => decide (j = k) && a == b
  | .string a, .string b => a == b
  | .nil, .nil => true
  | _, _ => false
def litsEq : List Lit → List Lit → Bool
  | [], [] => true
  | a :: as, b :: bs => litEq a b && litsEq as bs
  | _, _ => false
/-- What a key reads as: of a type of integers, booleans, strings, and what is made of these. -/
def keyA (kt : TypeId) (k : Value) : Option (List Lit) := cond (k.formed P kt) (P.keyLits 40 kt k.cells.toList) none
def aEq (t : TypeId) (x y : Value) : Option Bool :=
  match x, y with
  | .bool a, .bool b => match P.underlying t with | some .bool => some (a == b) | _ => none
  | .agg xs, .agg ys =>
    match P.keyTypeAt 40 t, keyA P t (.agg xs), keyA P t (.agg ys) with
    | true, some la, some lb => some (litsEq la lb)
    | _, _, _ => none
  | .pointer none, .pointer b => match P.underlying t with | some (.pointer _) => some b.isNone | _ => none
  | .pointer (some _), .pointer none => match P.underlying t with | some (.pointer _) => some false | _ => none
  | .slice a _ _, .slice none _ _ => match P.underlying t with | some (.slice _) => some a.isNone | _ => none
  | .slice none _ _, .slice (some _) _ _ => match P.underlying t with | some (.slice _) => some false | _ => none
  | .map a, .map none => match P.underlying t with | some (.map _ _) => some a.isNone | _ => none
  | .map none, .map (some _) => match P.underlying t with | some (.map _ _) => some false | _ => none
  | .nilFunc, .nilFunc => match P.underlying t with | some (.func _ _ _) => some true | _ => none
  | .func _ _ _, .nilFunc | .nilFunc, .func _ _ _ => match P.underlying t with | some (.func _ _ _) => some false | _ => none
  | _, _ => none
def aInt (op : BinOp) (k : IntKind) (a b : Int) : Option Value :=
  match op with
  | .add => some (.int k (k.wrap (a + b)))
  | .sub => some (.int k (k.wrap (a - b)))
  | .mul => some (.int k (k.wrap (a * b)))
  | .quo => if b = 0 then none else some (.int k (k.wrap (a.tdiv b)))
  | .rem => if b = 0 then none else some (.int k (a.tmod b))
  | .and => some (.int k (k.wrap (BitVec.ofInt k.bits a &&& BitVec.ofInt k.bits b).toNat))
  | .or => some (.int k (k.wrap (BitVec.ofInt k.bits a ||| BitVec.ofInt k.bits b).toNat))
  | .xor => some (.int k (k.wrap (BitVec.ofInt k.bits a ^^^ BitVec.ofInt k.bits b).toNat))
  | .andNot => some (.int k (k.wrap (BitVec.ofInt k.bits a &&& ~~~ BitVec.ofInt k.bits b).toNat))
  | .eql => some (.bool (a == b))
  | .neq => some (.bool (a != b))
  | .lss => some (.bool (decide (a < b)))
  | .leq => some (.bool (decide (a ≤ b)))
  | .gtr => some (.bool (decide (a > b)))
  | .geq => some (.bool (decide (a ≥ b)))
  | _ => none
def aShift (op : BinOp) (k : IntKind) (a b : Int) : Option Value :=
  if b < 0 then none else
  match op with
  | .shl => some (.int k (k.wrap (a * 2 ^ min b.toNat k.bits)))
  | .shr => some (.int k (a.fdiv (2 ^ min b.toNat k.bits)))
  | _ => none
def aStr (op : BinOp) (a b : ByteArray) : Option Value :=
  match op with
  | .add => if ((a.size + b.size : Nat) : Int) ≤ 9223372036854775807 then some (.string (a ++ b)) else none
  | .eql => some (.bool (a == b))
  | .neq => some (.bool (!(a == b)))
  | .lss => some (.bool (Op.bytesLess a.toList b.toList))
  | _ => none
def aBin (op : BinOp) (t : TypeId) (x y : Value) : Option Value :=
  match x, y with
  | .int k a, .int k' b =>
    match op with
    | .shl => aShift .shl k a b
    | .shr => aShift .shr k a b
    | op => if k = k' then aInt op k a b else none
  | .string a, .string b => aStr op a b
  | x, y =>
    match op with
    | .eql => (aEq P t x y).map .bool
    | .neq => (aEq P t x y).map fun b => .bool (!b)
    | _ => none
def aUn (op : UnOp) (x : Value) : Option Value :=
  match op, x with
  | .neg, .int k n => some (.int k (k.wrap (0 - n)))
  | .xor, .int k n => some (.int k (k.wrap (BitVec.ofInt k.bits (if k.signed then -1 else k.max) ^^^ BitVec.ofInt k.bits n).toNat))
  | .not, .bool b => some (.bool !b)
  | _, _ => none
def bytesOfCells : List Value → Option (List UInt8)
  | [] => some []
  | .int .u8 n :: r => (bytesOfCells r).map (UInt8.ofNat n.toNat :: ·)
  | _ => none
def aConvert (h : AH) (src dst : TypeId) (x : Value) : Option (Value × AH) :=
  match P.underlying src, P.underlying dst, x with
  | some (.int _), some (.int k), .int _ n => some (.int k (k.wrap n), h)
  | some .string, some .string, .string s => some (.string s, h)
  | some .string, some (.slice e), .string s =>
    match P.underlying e with
    | some (.int .u8) => if s.size ≤ roomMax ∧ P.cellsOf e = 1 then some (.slice (some ⟨h.next, 0, none⟩) s.size openCap, h.alloc (.cells (s.data.toList.map fun b => .int .u8 b.toNat) e false)) else none
    | _ => none
  | some (.slice e), some .string, .slice a n c =>
    match P.underlying e with
    | some (.int .u8) =>
      match firstC h 1 n (.slice a n c) with
      | some cs => match bytesOfCells cs with | some bs => some (.string ⟨bs.toArray⟩, h) | none => none
      | none => none
    | _ => none
  | some (.slice _), some (.slice e2), .slice (some ⟨b, off, none⟩) n c =>
    match P.underlying e2, h.get b with
    | some (.int .u8), some (.cells cs e false) => if src = dst then some (.slice (some ⟨b, off, none⟩) n c, h.set b (.cells cs e false)) else none
    | _, _ => none
  | _, _, _ => none
def aMinMaxGo (mx : Bool) (k : IntKind) : Int → List Value → Option Value
  | a, [] => some (.int k a)
  | a, .int _ b :: r => aMinMaxGo mx k (if mx then (if b > a then b else a) else (if b < a then b else a)) r
  | _, _ => none
def aMinMax (mx : Bool) : List Value → Option Value
  | .int k a :: r => aMinMaxGo mx k a r
  | _ => none

/-! ### Maps -/
def findA (kt : TypeId) (la : List Lit) : List MapEntry → Nat → Option (Option (Nat × Value))
  | [], _ => some none
  | e :: es, i =>
    match keyA P kt e.key with
    | some lb => cond (litsEq la lb) (some (some (i, e.val))) (findA kt la es (i + 1))
    | none => none
def keyT (kt : TypeId) : Bool := P.keyTypeAt 40 kt && P.tiled 40 kt
/-- A type's zero value, if it is no tuple. -/
def zeroVal (t : TypeId) : Option Value := match cond (Nat.blt t P.types.size) (P.info? t) none with | some i => (match i.zero with | some (.tuple _) => none | some z => some z | none => none) | none => none
def aLookup (h : AH) (t : TypeId) (m k : Value) (ok : Bool) : Option Value :=
  match P.underlying t with
  | some (.map kt et) =>
    match keyT P kt, keyA P kt k, zeroVal P et with
    | true, some la, some z =>
      match m with
      | .map none => some (cond ok (.tuple #[z, .bool false]) z)
      | .map (some r) =>
        match h.get r with
        | some (.map es _) =>
          match findA P kt la es 0 with
          | some (some (_, v)) => some (cond ok (.tuple #[v, .bool true]) v)
          | some none => some (cond ok (.tuple #[z, .bool false]) z)
          | none => none
        | _ => none
      | _ => none
    | _, _, _ => none
  | _ => none
def aMapUpdate (h : AH) (t : TypeId) (m k v : Value) : Option AH :=
  match P.underlying t, m with
  | some (.map kt _), .map (some r) =>
    match keyT P kt, keyA P kt k, h.get r with
    | true, some la, some (.map es clock) =>
      match findA P kt la es 0 with
      | some (some (i, _)) => some (h.set r (.map (es.modify i fun e => { e with key := k, val := v }) clock))
      | some none => some (h.set r (.map (es ++ [{ key := k, val := v, born := clock }]) (clock + 1)))
      | none => none
    | _, _, _ => none
  | _, _ => none
def aDelete (h : AH) (t : TypeId) (m k : Value) : Option (Value × AH) :=
  match P.underlying t, m with
  | some (.map kt _), .map (some r) =>
    match keyT P kt, keyA P kt k, h.get r with
    | true, some la, some (.map es clock) =>
      match findA P kt la es 0 with
      | some (some (i, _)) => some (undef, h.set r (.map (es.eraseIdx i) clock))
      | some none => some (undef, h.set r (.map es clock))
      | none => none
    | _, _, _ => none
  | _, _ => none
def aLen (h : AH) (t : TypeId) (x : Value) : Option Value :=
  match P.underlying t, x with
  | some .string, .string s => some (.int .i64 s.size)
  | some (.array n _), _ => some (.int .i64 n)
  | some (.pointer arr), _ => match P.underlying arr with | some (.array n _) => some (.int .i64 n) | _ => none
  | some (.slice _), .slice _ n _ => some (.int .i64 n)
  | some (.map _ _), .map none => some (.int .i64 0)
  | some (.map _ _), .map (some r) => match h.get r with | some (.map es _) => some (.int .i64 es.length) | _ => none
  | _, _ => none

/-- The capacity, where it is known. -/
def aCap (t : TypeId) (x : Value) : Option Value :=
  match P.underlying t, x with
  | some (.slice _), .slice _ _ c => if c < openCap then some (.int .i64 c) else none
  | _, _ => none
/-! ## Operations that call nothing -/
def aBuiltin (h : AH) (b : Builtin) (argTypes : Array TypeId) (args : List Value) : Option (Value × AH) :=
  match b, argTypes.toList, args with
  | .len, [t], [x] => (aLen P h t x).map (·, h)
  | .cap, [t], [x] => (aCap P t x).map (·, h)
  | .append, [st, xt], [s, x] => match P.underlying xt with | some (.int _) => aAppendZ P h st xt s x | _ => aAppend P h st (match P.underlying xt with | some (.slice _) | some .string => false | _ => true) s x
  | .copy, t :: _, [d, s] => aCopy P h t d s
  | .clear, t :: _, [x] => aClear P h t x
  | .delete, t :: _, [m, k] => aDelete P h t m k
  | .min, _, args => (aMinMax false args).map (·, h)
  | .max, _, args => (aMinMax true args).map (·, h)
  | _, _, _ => none
def aOp (o : Oper) (e : Env) (h : AH) : Option (Value × AH) :=
  match o.op with
  | .move x | .assign x => some (ev e x, h)
  | .pick c a b => match ev e c with | .bool t => some (cond t (ev e a) (ev e b), h) | _ => none
  | .alloc t => match zeroCellsOf P t with | some z => some (aNew h t z) | none => none
  | .box t x => match ev e x with | .tuple _ => none | v => some (aNew h t v.cells.toList)
  | .build t parts => (aBuild P t (parts.map fun (i, x) => (i, ev e x))).map (·, h)
  | .buildSlice t n parts => aBuildSlice P h t n (parts.map fun (i, x) => (i, ev e x))
  | .load t a => (aLoad P h t (ev e a)).map (·, h)
  | .store t a v => (aStore P h t (ev e a) (ev e v)).map (undef, ·)
  | .nilCheck x => match ev e x with | .pointer (some a) => some (.pointer (some a), h) | .func (.func f) a b => some (.func (.func f) a b, h) | .func (.yield f) a b => some (.func (.yield f) a b, h) | _ => none
  | .binOp op t x y _ => (aBin P op t (ev e x) (ev e y)).map (·, h)
  | .unOp op _ x => (aUn op (ev e x)).map (·, h)
  | .convert s d x => aConvert P h s d (ev e x)
  | .makeFunc fn a b => match fn with | .func f => some (.func (.func f) (a.map (ev e)) (b.map (ev e)), h) | _ => none
  | .makeMap _ r => match r with | none => some (.map (some h.next), h.alloc (.map [] 0)) | some _ => none
  | .makeSlice t l c => aMakeSlice P h t (ev e l) (ev e c)
  | .slice t x lo hi mx => (aSlice P h t (ev e x) (lo.map (ev e)) (hi.map (ev e)) (mx.map (ev e))).map (·, h)
  | .fieldAddr s x f => (aFieldAddr P s (ev e x) f).map (·, h)
  | .field t x f => (aField P t (ev e x) f).map (·, h)
  | .indexAddr t x i => (aIndexAddr P t (ev e x) (ev e i)).map (·, h)
  | .index t x i => (aIndex P t (ev e x) (ev e i)).map (·, h)
  | .lookup t m k ok => (aLookup P h t (ev e m) (ev e k) ok).map (·, h)
  | .mapUpdate t m k v => (aMapUpdate P h t (ev e m) (ev e k) (ev e v)).map (undef, ·)
  | .range t x => match P.underlying t, ev e x with | some .string, .string s => some (ptr h.next 0, h.alloc (.siter s 0)) | _, _ => none
  | .next it true =>
    match ev e it with
    | .pointer (some ⟨r, 0, none⟩) =>
      match h.get r with
      | some (.siter s pos) =>
        if pos < s.size then some (.tuple #[.bool true, .int .i64 pos, .int .i32 (Utf8.decode s pos).1], h.set r (.siter s (pos + (Utf8.decode s pos).2))) else some (.tuple #[.bool false], h)
      | _ => none
    | _ => none
  | .extract t i => match ev e t with | .tuple vs => (vs[i]?).map (·, h) | _ => none
  | .call { callee := .builtin b, args, argTypes } => aBuiltin P h b argTypes (args.toList.map (ev e))
  | _ => none

/-! ### Functions that are told: those without a body, and those whose answer is known -/
inductive XF where
  | ext (g : List Value → AH → Option (Value × AH))
  | sum (g : List Value → AH → Option (Value × AH))
abbrev Xs := FuncId → Option XF
/-! ## Code -/
inductive AX where
  | normal
  | exit (id : Nat)
  | ret

/-- The evaluator at lesser fuel: the round of a range over a function that it is in, the slots that are struck, the code, slots, blocks. -/
abbrev Ex := Option Nat → List Tmp → Code → Env → AH → Option (AX × Env × AH)

def killV (h : AH) : Value → AH
  | .pointer (some a) => h.del a.block
  | .slice (some a) _ _ => h.del a.block
  | .map (some r) => h.del r
  | _ => h
def killAll (e : Env) (h : AH) : List Tmp → AH
  | [] => h
  | t :: ts => killAll e (killV h (ev e (.tmp t))) ts
/-- Ahead of an operation: what its slot led to is struck, if the slot is one of those that are. -/
def preKill (ks : List Tmp) (d : Option Tmp) (e : Env) (h : AH) : AH := match d with | some t => if ks.contains t then killV h (ev e (.tmp t)) else h | none => h
def aResult (e : Env) (h : AH) : ResultVar → Option Value
  | .tmp t => some (ev e (.tmp t))
  | .cell a t => aLoad P h t (ev e (.tmp a))
def aResults (e : Env) (h : AH) (rs : List ResultVar) : Option Value :=
  match rs.mapM (aResult P e h) with
  | some [v] => some v
  | some vs => some (.tuple vs.toArray)
  | none => none
variable (K : Xs)
def grown (h : AH) (y : Option (Value × AH)) : Option (Value × AH) := match y with | some (v, h') => (match Nat.ble h.next h'.next with | true => some (v, h') | false => none) | none => none
def bodyF (r : Ex) (f : FuncId) (args : List Value) (h : AH) : Option (Value × AH) :=
  match P.funcs[f]? with
  | some fn =>
    match fn.body with
    | some c =>
      match r none [] c (Tr.ofList args) h with
      | some (.normal, e', h') | some (.ret, e', h') => match aResults P e' h' fn.results.toList with | some v => some (v, h') | none => none
      | _ => none
    | none => none
  | none => none
def callF (r : Ex) (f : FuncId) (args : List Value) (h : AH) : Option (Value × AH) :=
  match K f with
  | some (.sum g) => grown h (g args h)
  | some (.ext _) => none
  | none => bodyF P r f args h
/-- A call within a region: also of functions without a body. -/
def callX (r : Ex) (f : FuncId) (args : List Value) (h : AH) : Option (Value × AH) :=
  match K f with
  | some (.ext g) => grown h (g args h)
  | _ => callF P K r f args h
def yieldF (r : Ex) (l : Nat) (args : List Value) (h : AH) : Option (Value × AH) :=
  match h.get l with
  | some (.loop L) =>
    if args.length = L.params.length then
      match r (some l) [] L.assign (putAll L.env L.params args) h with
      | some (.normal, e2, h2) =>
        match h2.get l with
        | some (.loop L2) =>
          if L2.state = .ready then
            match r (some l) [] L.body e2 (h2.set l (.loop { L2 with state := .busy })) with
            | some (x, _, h4) =>
              match h4.get l with
              | some (.loop L4) =>
                match x with
                | .normal => some (.bool true, h4.set l (.loop { L4 with state := .ready, pending := none }))
                | .exit id => some (.bool false, h4.set l (.loop { L4 with state := .done, pending := some (.exit id) }))
                | .ret => some (.bool false, h4.set l (.loop { L4 with state := .done, pending := some .ret }))
              | _ => none
            | none => none
          else none
        | _ => none
      | _ => none
    else none
  | _ => none
def invokeF (r : Ex) (v : Value) (args : List Value) (h : AH) : Option (Value × AH) :=
  match v with
  | .func (.func f) first cap => callX P K r f (first.toList ++ args ++ cap.toList) h
  | .func (.yield l) first _ => yieldF r l (first.toList ++ args) h
  | _ => none
def runOp (r : Ex) (o : Oper) (e : Env) (h : AH) : Option (Value × AH) :=
  match o.op with
  | .call { callee := .value f, args, .. } => invokeF P K r (ev e f) (args.toList.map (ev e)) h
  | _ => aOp P o e h
/-- Is an operation run: its guard. -/
def wantedA (ops : Array Oper) (o : Oper) (e : Env) : Option Bool :=
  match o.guard with
  | none => some true
  | some (j, w) => match (ops[j]?).bind (·.dst) with | some d => (match e.get d with | some (.bool b) => some (b == w) | _ => none) | none => none
def runOps (r : Ex) (ks : List Tmp) (ops : Array Oper) : List Oper → Env → AH → Option (Env × AH)
  | [], e, h => some (e, h)
  | o :: os, e, h =>
    match wantedA ops o e with
    | some true =>
      match runOp P K r o e (preKill ks o.dst e h) with
      | some (v, h') => runOps r ks ops os (putO e o.dst v) h'
      | none => none
    | some false => runOps r ks ops os (putO e o.dst undef) h
    | none => none

/-! ### A region that draws its order: run in the text's order, and looked at -/
/-- 0: touches no block that is there; 2: reads; 3: may write. -/
def opKind (o : Op) : Nat :=
  match o with
  | .load _ _ | .lookup _ _ _ _ | .slice _ _ _ _ _ => 2
  | .convert s d _ => match P.underlying s, P.underlying d with | _, some .string => 2 | some .string, some (.slice _) => 1 | _, some (.int _) => 0 | _, _ => 3
  | .call { callee := .builtin .len, .. } => 2
  | .move _ | .assign _ | .pick _ _ _ | .build _ _ | .nilCheck _ | .binOp _ _ _ _ _ | .unOp _ _ _ | .makeFunc _ _ _
  | .fieldAddr _ _ _ | .field _ _ _ | .indexAddr _ _ _ | .index _ _ _ | .extract _ _ => 0
  | .alloc _ | .box _ _ | .buildSlice _ _ _ | .makeMap _ _ | .makeSlice _ _ _ => 1
  | _ => 3
def eqS : Value → Value → Bool
  | .bool a, .bool b => a == b
  | .int j a, .int k b => j == k && a == b
  | .string a, .string b => a == b
  | .pointer a, .pointer b => a == b
  | .slice a n c, .slice b m d => a == b && n == m && c == d
  | .map a, .map b => a == b
  | .nilFunc, .nilFunc | .nilIface, .nilIface => true
  | _, _ => false
def eqL : List Value → List Value → Bool
  | [], [] => true
  | a :: as, b :: bs => eqS a b && eqL as bs
  | _, _ => false
def eqV : Value → Value → Bool
  | .agg a, .agg b => eqL a.toList b.toList
  | .tuple a, .tuple b => eqL a.toList b.toList
  | a, b => eqS a b
/-! ### Regions that are drawn: one order is run, and what may be read in another is read again -/
def looks (ops : Array Oper) (o : Oper) : List Tmp :=
  (o.op.operands.toList.filterMap fun | .tmp t => some t | _ => none) ++ (match o.guard with | some (g, _) => ((ops[g]?).bind (·.dst)).toList | none => [])
/-- Those that must come before j, and j. -/
def lazyIns (ops : Array Oper) (bf : Array Nat) (acc : List Nat) (j : Nat) : List Nat :=
  acc ++ ((List.range ops.size).filter fun i => (Nat.beq i j || (bf.getD j 0).testBit i) && !acc.contains i)
def lazyOrd (ops : Array Oper) (bf : Array Nat) : List Nat :=
  let acc := ((List.range ops.size).filter fun i => match ops[i]? with | some o => Nat.beq (opKind P o.op) 3 | none => false).foldl (lazyIns ops bf) []
  acc ++ (List.range ops.size).filter fun i => !acc.contains i
def isLin (md : Region.Mode) (ops : Array Oper) : List Nat → List Nat → Bool
  | _, [] => true
  | seen, j :: l => (match ops[j]? with | some o => o.after.toList.all fun e => !Region.binds md e || seen.contains e.on | none => false) && !seen.contains j && isLin md ops (j :: seen) l
def covers (n : Nat) (l : List Nat) : Bool := (List.range n).all fun i => l.contains i
def dstsApart (a b : Oper) : Bool := match a.dst, b.dst with | some x, some y => !Nat.beq x y | _, _ => true
def looksEach (ops : Array Oper) (a b : Oper) : Bool := (match a.dst with | some x => (looks ops b).contains x | none => false) || (match b.dst with | some y => (looks ops a).contains y | none => false)
/-- What two operations, the first ahead of the second in the order, must fulfil; and what is to be read again: (which, at which writing one). -/
def pairOk (ops : Array Oper) (bf : Array Nat) (ia ib : Nat) (pa pb : Nat) : Option (List (Nat × Nat)) :=
  match ops[ia]?, ops[ib]? with
  | some a, some b =>
    match dstsApart a b, (bf.getD ib 0).testBit ia, looksEach ops a b with
    | false, _, _ => none
    | _, true, _ => some []
    | _, false, true => none
    | _, _, _ =>
      match opKind P a.op, opKind P b.op with
      | 3, 3 | 1, 3 => none
      | 2, 3 => some [(pa, pb)]
      | 3, 2 => some [(pb, pa)]
      | _, _ => some []
  | _, _ => none
def pairsFrom (ops : Array Oper) (bf : Array Nat) (ia pa : Nat) : List Nat → Nat → Option (List (Nat × Nat))
  | [], _ => some []
  | ib :: l, pb => match pairOk P ops bf ia ib pa pb, pairsFrom ops bf ia pa l (pb + 1) with | some x, some y => some (x ++ y) | _, _ => none
def pairsAll (ops : Array Oper) (bf : Array Nat) : List Nat → Nat → Option (List (Nat × Nat))
  | [], _ => some []
  | ia :: l, pa => match pairsFrom P ops bf ia pa l (pa + 1), pairsAll ops bf l (pa + 1) with | some x, some y => some (x ++ y) | _, _ => none
def plan (ops : Array Oper) : Option (List Nat × List (Nat × Nat)) :=
  let bf := Region.before ops
  let ord := lazyOrd P ops bf
  match isLin .any ops [] ord && covers ops.size ord && isLin .text ops [] (List.range ops.size) && (let l := Region.linearise .gc ops 0; isLin .gc ops [] l && covers ops.size l) with
  | true => match pairsAll P ops bf ord 0 with | some ps => some (ord, ps) | none => none
  | false => none
/-- The run in that order, with what is ahead of each operation and behind the last. -/
def runL (r : Ex) (ops : Array Oper) : List Nat → Env → AH → Option (List (Env × AH))
  | [], e, h => some [(e, h)]
  | j :: js, e, h =>
    match ops[j]? with
    | some o =>
      match wantedA ops o e with
      | some true =>
        match runOp P K r o e h with
        | some (v, h') => match runL r ops js (putO e o.dst v) h' with | some l => some ((e, h) :: l) | none => none
        | none => none
      | some false => match runL r ops js (putO e o.dst undef) h with | some l => some ((e, h) :: l) | none => none
      | none => none
    | none => none
def rereadAt (ops : Array Oper) (ord : List Nat) (l : List (Env × AH)) (p q : Nat) : Bool :=
  match (ord[p]?).bind (ops[·]?), l[p]?, l[p + 1]?, l[q]? with
  | some o, some (e, _), some (e1, _), some (_, h) =>
    match wantedA ops o e with
    | some false => true
    | some true => match o.dst, aOp P o e h with | some d, some (v, _) => eqV v (ev e1 (.tmp d)) | _, _ => false
    | none => false
  | _, _, _, _ => false
def exDraw (r : Ex) (ops : Array Oper) (e : Env) (h : AH) : Option (Env × AH) :=
  match plan P ops with
  | some (ord, ps) =>
    match runL P K r ops ord e h with
    | some l =>
      match ps.all (fun p => rereadAt P ops ord l p.1 p.2 && rereadAt P ops ord l p.1 (p.2 + 1)) with
      | true => l.getLast?
      | false => none
    | none => none
  | none => none

/-- The call of the function that is ranged over: it is handed the loop's yield. -/
def rangeCall (r : Ex) (v : Value) (l : Nat) (h : AH) : Option (Value × AH) :=
  match v with
  | .func (.func g) first cap => callF P K r g (first.toList ++ [Value.func (Fn.yield l) #[] #[]] ++ cap.toList) h
  | _ => none
/-- The round around is there. -/
def aroundOk (rd : Option Nat) (h : AH) : Bool := match rd with | none => true | some l => (match h.get l with | some (.loop _) => true | _ => false)
def exRange (r : Ex) (ks : List Tmp) (f : Operand) (params : List Tmp) (assign body : Code) (e : Env) (h : AH) : Option (AX × Env × AH) :=
  match rangeCall P K r (ev e f) h.next (h.alloc (.loop { state := .ready, pending := none, env := e, params, assign, body, ks })) with
  | some (_, h2) =>
    match h2.get h.next with
    | some (.loop L) =>
      match L.state with
      | .busy => none
      | _ =>
        match L.pending with
        | none => some (.normal, e, h2.del h.next)
        | some (.exit id) => some (.exit id, e, h2.del h.next)
        | some .ret => some (.ret, e, h2.del h.next)
        | _ => none
    | _ => none
  | none => none

def exStep (r : Ex) : Ex := fun rd ks c e h =>
  match c with
  | .skip | .label _ => some (.normal, e, h)
  | .region _ ops draw =>
    match draw with
    | false => match runOps P K r ks ops ops.toList e h with | some (e', h') => some (.normal, e', h') | none => none
    | true => match exDraw P K r ops e h with | some (e', h') => some (.normal, e', h') | none => none
  | .seq a b => match r rd ks a e h with | some (.normal, e', h') => r rd ks b e' h' | x => x
  | .cond c a b => match ev e c with | .bool t => cond t (r rd ks a e h) (r rd ks b e h) | _ => none
  | .block id c => match r rd ks c e h with | some (.exit id', e', h') => cond (Nat.beq id' id) (some (.normal, e', h')) (some (.exit id', e', h')) | x => x
  | .loop c => match r rd ks c e h with | some (.normal, e', h') => r rd ks (.loop c) e' h' | x => x
  | .scope c => r rd ks c e h
  | .exit id => some (.exit id, e, h)
  | .ret => some (.ret, e, h)
  | .rangeFunc f params assign body => match aroundOk rd h with | false => none | true => exRange P K r ks f params.toList assign body e h
  | .goto _ | .refuse _ => none

def ex : Nat → Ex
  | 0 => fun _ _ _ _ _ => none
  | n + 1 => exStep P K (ex n)
end
end Go.Am
