/-
  A MACHINE FOR THE KERNEL: operations in small steps, and that they say what the faster machine says.
-/
import Derived.Test.YtkggibodlljkcaiGreatAm5d
set_option linter.unusedVariables false
set_option linter.unusedSimpArgs false
namespace Go.Am
/-! ## Operands -/
inductive Src where
  | t (p : Pt)
  | c (v : Value)
def src (o : Operand) : Src :=
  match o with
  | .tmp t => .t (pt t)
  | .const v => .c (cond (plainV v) v undef)
  | .global _ => .c undef
  | .func f => .c (.func (.func f) #[] #[])
/-- An operand is read, and on with what it is. -/
noncomputable def rdS {β : Type} (s : Src) (e : Env) (f : Value → β) : β := Src.rec (motive := fun _ => β) (fun p => Option.rec (motive := fun _ => β) (f undef) f (Tr.getP p e)) f s
theorem rdS_eq {β : Type} (o : Operand) (e : Env) (f : Value → β) : rdS (src o) e f = f (ev e o) := by
  cases o with
  | tmp t =>
    show Option.rec (motive := fun _ => β) (f undef) f (Tr.getP (pt t) e) = _
    rw [Tr.getP_pt]
    simp only [ev]
    cases e.get t <;> rfl
  | _ => rfl
noncomputable def blockF (h : FH) (b : Nat) : Option FObj := h.get b
noncomputable def newB (h : FH) (o : FObj) : Option (Value × FH) := forceN h.next fun n => some (ptr n 0, ⟨Tr.setP (some o) (pt n) h.tr, Nat.succ n⟩)
theorem newB_eq (h : FH) (o : FObj) : newB h o = some (ptr h.next 0, h.alloc o) := by
  unfold newB
  rw [forceN_eq, FH.alloc_eq, Tr.setP_pt]
noncomputable def cnd {α : Type} (b : Bool) (x y : α) : α := Bool.rec (motive := fun _ => α) y x b
theorem cnd_eq {α : Type} (b : Bool) (x y : α) : cnd b x y = cond b x y := by cases b <;> rfl
theorem cnd_some {α : Type} {b : Bool} {x y : α} (hs : cnd b (some x) none = some y) : b = true ∧ x = y := by
  rw [cnd_eq] at hs
  exact cond_some hs
theorem cnd_some' {α : Type} {b : Bool} {x : Option α} {y : α} (hs : cnd b x none = some y) : b = true ∧ x = some y := by
  rw [cnd_eq] at hs
  exact cond_some' hs
theorem cnd_no {α : Type} {b : Bool} {x : Option α} {y : α} (hs : cnd b none x = some y) : b = false ∧ x = some y := by
  cases b
  · exact ⟨rfl, hs⟩
  · cases hs
abbrev KO := Env → FH → Option (Value × FH)
/-! ## What a value is: eliminators whose parts are closed -/
def asLoc (v : Value) : Option (Nat × Nat) := match v with | .pointer (some ⟨b, off, none⟩) => some (b, off) | _ => none
def asNat (v : Value) : Option (IntKind × Nat) := match v with | .int k (.ofNat n) => some (k, n) | _ => none
def asBool (v : Value) : Option Bool := match v with | .bool b => some b | _ => none
def asPtr (v : Value) : Option Addr := match v with | .pointer (some a) => some a | _ => none
def asRow (v : Value) : Option ((Nat × Nat) × Nat) := match v with | .slice (some ⟨b, off, none⟩) n _ => some ((b, off), n) | _ => none
def asAgg (v : Value) : Option (List Value) := match v with | .agg cs => some cs.toList | _ => none
inductive CellsI where
  | mk (c : Tr Value) (n : Nat) (e : TypeId) (ro : Bool)
def asCells (o : Option FObj) : Option CellsI := match o with | some (.cells c n e ro) => some (.mk c n e ro) | _ => none
theorem asLoc_some {v : Value} {b off : Nat} (h : asLoc v = some (b, off)) : v = .pointer (some ⟨b, off, none⟩) := by
  unfold asLoc at h
  split at h
  · simp only [Option.some.injEq, Prod.mk.injEq] at h
    obtain ⟨rfl, rfl⟩ := h
    rfl
  · simp at h
theorem asNat_some {v : Value} {k : IntKind} {n : Nat} (h : asNat v = some (k, n)) : v = .int k (.ofNat n) := by
  unfold asNat at h
  split at h
  · simp only [Option.some.injEq, Prod.mk.injEq] at h
    obtain ⟨rfl, rfl⟩ := h
    rfl
  · simp at h
theorem asBool_some {v : Value} {b : Bool} (h : asBool v = some b) : v = .bool b := by
  unfold asBool at h
  split at h
  · simp only [Option.some.injEq] at h
    rw [h]
  · simp at h
theorem asPtr_some {v : Value} {a : Addr} (h : asPtr v = some a) : v = .pointer (some a) := by
  unfold asPtr at h
  split at h
  · simp only [Option.some.injEq] at h
    rw [h]
  · simp at h
theorem asRow_some {v : Value} {b off n : Nat} (h : asRow v = some ((b, off), n)) : ∃ c, v = .slice (some ⟨b, off, none⟩) n c := by
  unfold asRow at h
  split at h
  · simp only [Option.some.injEq, Prod.mk.injEq] at h
    obtain ⟨⟨rfl, rfl⟩, rfl⟩ := h
    exact ⟨_, rfl⟩
  · simp at h
theorem asAgg_some {v : Value} {l : List Value} (h : asAgg v = some l) : ∃ cs : Array Value, v = .agg cs ∧ cs.toList = l := by
  unfold asAgg at h
  split at h
  · simp only [Option.some.injEq] at h
    exact ⟨_, rfl, h⟩
  · simp at h
theorem asCells_some {o : Option FObj} {c : Tr Value} {n : Nat} {e : TypeId} {ro : Bool} (h : asCells o = some (.mk c n e ro)) : o = some (.cells c n e ro) := by
  unfold asCells at h
  split at h
  · simp only [Option.some.injEq, CellsI.mk.injEq] at h
    obtain ⟨rfl, rfl, rfl, rfl⟩ := h
    rfl
  · simp at h
/-- On with what there is. -/
noncomputable def onO1 {α β : Type} (o : Option α) (f : α → Option β) : Option β := Option.rec (motive := fun _ => Option β) none f o
/-- On with the two, or the four, that there are. -/
noncomputable def onP {α β γ : Type} (o : Option (α × β)) (f : α → β → Option γ) : Option γ := Option.rec (motive := fun _ => Option γ) none (fun p => Prod.rec (motive := fun _ => Option γ) f p) o
noncomputable def onC {γ : Type} (o : Option CellsI) (f : Tr Value → Nat → TypeId → Bool → Option γ) : Option γ := Option.rec (motive := fun _ => Option γ) none (fun p => CellsI.rec (motive := fun _ => Option γ) f p) o
theorem onP_some {α β γ : Type} {o : Option (α × β)} {f : α → β → Option γ} {y : γ} (h : onP o f = some y) : ∃ a b, o = some (a, b) ∧ f a b = some y := by
  cases o with
  | none => cases h
  | some x => exact ⟨x.1, x.2, rfl, h⟩
theorem onC_some {γ : Type} {o : Option CellsI} {f : Tr Value → Nat → TypeId → Bool → Option γ} {y : γ} (h : onC o f = some y) : ∃ c n e ro, o = some (.mk c n e ro) ∧ f c n e ro = some y := by
  cases o with
  | none => cases h
  | some x => cases x; exact ⟨_, _, _, _, rfl, h⟩
theorem onO1_some {α β : Type} {o : Option α} {f : α → Option β} {y : β} (h : onO1 o f = some y) : ∃ x, o = some x ∧ f x = some y := by
  cases o with
  | none => cases h
  | some x => exact ⟨x, rfl, h⟩
/-! ## A value, made ready -/
inductive Shp where
  | b (b : Bool)
  | i (k : IntKind) (n : Nat)
  | p (b off : Nat)
  | s (b off n c : Nat)
  | o
def shape (v : Value) : Shp :=
  match v with
  | .bool b => .b b
  | .int k (.ofNat n) => .i k n
  | .pointer (some ⟨b, off, none⟩) => .p b off
  | .slice (some ⟨b, off, none⟩) n c => .s b off n c
  | _ => .o
noncomputable def nfV {β : Type} (v : Value) (f : Value → β) : β :=
  Shp.rec (motive := fun _ => β) (fun b => Bool.rec (motive := fun _ => β) (f (.bool false)) (f (.bool true)) b) (fun k n => forceN n fun n => f (.int k (.ofNat n)))
    (fun b off => forceN b fun b => forceN off fun off => f (.pointer (some ⟨b, off, none⟩))) (fun b off n c => forceN b fun b => forceN off fun off => forceN n fun n => forceN c fun c => f (.slice (some ⟨b, off, none⟩) n c)) (f v) (shape v)
theorem nfV_eq {β : Type} (v : Value) (f : Value → β) : nfV v f = f v := by
  unfold nfV
  generalize hq : shape v = q
  unfold shape at hq
  split at hq
  · subst hq; rename_i b; cases b <;> rfl
  · subst hq; exact forceN_eq _ _
  · subst hq
    show forceN _ _ = _
    rw [forceN_eq, forceN_eq]
  · subst hq
    show forceN _ _ = _
    rw [forceN_eq, forceN_eq, forceN_eq, forceN_eq]
  · subst hq; rfl
noncomputable def nfR (y : Option (Value × FH)) : Option (Value × FH) := onP y fun v h => nfV v fun v => some (v, h)
theorem nfR_eq (y : Option (Value × FH)) : nfR y = y := by
  cases y with
  | none => rfl
  | some p => exact nfV_eq p.1 (fun v => some (v, p.2))
/-! ## Small steps -/
noncomputable def kGen (k : KO) : KO := fun e h => nfR (k e h)
noncomputable def kMove (x : Src) : KO := fun e h => rdS x e fun v => some (v, h)
noncomputable def loadB (off : Nat) (h : FH) (o : Option FObj) : Option (Value × FH) := onC (asCells o) fun c n _ _ => cnd (Nat.blt off n) (Tr.cellK c off fun v => some (v, h)) none
noncomputable def loadV (h : FH) (v : Value) : Option (Value × FH) := onP (asLoc v) fun b off => loadB off h (blockF h b)
noncomputable def kLoad1 (x : Src) : KO := fun e h => rdS x e (loadV h)
noncomputable def loadBN (k off : Nat) (h : FH) (o : Option FObj) : Option (Value × FH) := onC (asCells o) fun c n _ _ => cnd (Nat.ble (off + k) n) (some (.agg (Tr.subL c off k).toArray, h)) none
noncomputable def loadVN (k : Nat) (h : FH) (v : Value) : Option (Value × FH) := onP (asLoc v) fun b off => loadBN k off h (blockF h b)
noncomputable def kLoadN (k : Nat) (x : Src) : KO := fun e h => rdS x e (loadVN k h)
noncomputable def storeB (h : FH) (b off : Nat) (v : Value) (o : Option FObj) : Option (Value × FH) := onC (asCells o) fun c n e ro => cnd ro none (cnd (Nat.blt off n) (some (undef, FH.set h b (.cells (Tr.put1 c off v) n e false))) none)
noncomputable def storeV (h : FH) (a v : Value) : Option (Value × FH) := onP (asLoc a) fun b off => cnd (isMulti v) none (storeB h b off v (blockF h b))
noncomputable def kStore1 (x y : Src) : KO := fun e h => rdS x e fun x => rdS y e fun y => storeV h x y
noncomputable def storeBN (h : FH) (b off : Nat) (vs : List Value) (o : Option FObj) : Option (Value × FH) := onC (asCells o) fun c n e ro => cnd ro none (cnd (Nat.ble (off + vs.length) n) (some (undef, FH.set h b (.cells (Tr.setL c off vs) n e false))) none)
noncomputable def storeVN (k : Nat) (h : FH) (a v : Value) : Option (Value × FH) := onP (asLoc a) fun b off => onO1 (asAgg v) fun l => cnd (Nat.beq l.length k) (storeBN h b off l (blockF h b)) none
noncomputable def kStoreN (k : Nat) (x y : Src) : KO := fun e h => rdS x e fun x => rdS y e fun y => storeVN k h x y
noncomputable def boxV (t : TypeId) (h : FH) (v : Value) : Option (Value × FH) :=
  match v with
  | .tuple _ => none
  | .agg cs => newB h (.cells (Tr.setL .nil 0 cs.toList) cs.toList.length t false)
  | v => newB h (.cells (.node (some v) .nil .nil) 1 t false)
noncomputable def kBox (t : TypeId) (x : Src) : KO := fun e h => rdS x e (boxV t h)
noncomputable def kAlloc (t : TypeId) (z : Option (Tr Value × Nat)) : KO := fun e h => onP z fun c n => newB h (.cells c n t false)
noncomputable def nilV (h : FH) (v : Value) : Option (Value × FH) := onO1 (asPtr v) fun a => some (v, h)
noncomputable def kNil (x : Src) : KO := fun e h => rdS x e (nilV h)
noncomputable def offV (d : Nat) (h : FH) (v : Value) : Option (Value × FH) := onP (asLoc v) fun b off => forceN (Nat.add off d) fun off => some (.pointer (some ⟨b, off, none⟩), h)
noncomputable def kOff (d : Nat) (x : Src) : KO := fun e h => rdS x e (offV d h)
noncomputable def idxAV (n sz : Nat) (h : FH) (v : Value) (i : Value) : Option (Value × FH) := onP (asLoc v) fun b off => onP (asNat i) fun _ j => cnd (Nat.blt j n) (forceN (Nat.add off (Nat.mul j sz)) fun off => some (.pointer (some ⟨b, off, none⟩), h)) none
noncomputable def kIdxA (n sz : Nat) (x i : Src) : KO := fun e h => rdS x e fun x => rdS i e fun i => idxAV n sz h x i
noncomputable def idxSV (sz : Nat) (h : FH) (v : Value) (i : Value) : Option (Value × FH) := onP (asRow v) fun p n => onP (asNat i) fun _ j => cnd (Nat.blt j n) (Prod.rec (motive := fun _ => Option (Value × FH)) (fun b off => forceN (Nat.add off (Nat.mul j sz)) fun off => some (.pointer (some ⟨b, off, none⟩), h)) p) none
noncomputable def kIdxS (sz : Nat) (x i : Src) : KO := fun e h => rdS x e fun x => rdS i e fun i => idxSV sz h x i
noncomputable def pickV (h : FH) (c a b : Value) : Option (Value × FH) := onO1 (asBool c) fun t => Bool.rec (motive := fun _ => Option (Value × FH)) (some (b, h)) (some (a, h)) t
noncomputable def kPick (c a b : Src) : KO := fun e h => rdS c e fun c => rdS a e fun a => rdS b e fun b => pickV h c a b
noncomputable def notV (h : FH) (v : Value) : Option (Value × FH) := onO1 (asBool v) fun t => Bool.rec (motive := fun _ => Option (Value × FH)) (some (.bool true, h)) (some (.bool false, h)) t
noncomputable def kNot (x : Src) : KO := fun e h => rdS x e (notV h)
/-! ### Whole numbers -/
def maxN (k : IntKind) : Nat := match k with | .i8 => 127 | .i16 => 32767 | .i32 => 2147483647 | .i64 => 9223372036854775807 | .u8 => 255 | .u16 => 65535 | .u32 => 4294967295 | .u64 => 18446744073709551615
def kNum (k : IntKind) : Nat := match k with | .i8 => 0 | .i16 => 1 | .i32 => 2 | .i64 => 3 | .u8 => 4 | .u16 => 5 | .u32 => 6 | .u64 => 7
theorem kNum_inj {k k' : IntKind} (h : Nat.beq (kNum k) (kNum k') = true) : k = k' := by
  have := Nat.eq_of_beq_eq_true h
  cases k <;> cases k' <;> first | rfl | (simp [kNum] at this)
theorem wrap_small {k : IntKind} {m : Nat} (h : m ≤ maxN k) : k.wrap (m : Int) = m := by
  cases k <;> simp [maxN] at h <;> simp [IntKind.wrap, IntKind.bits, IntKind.signed] <;> omega
/-- A number that is in the kind's reach, or none. -/
noncomputable def natV (k : IntKind) (m : Nat) : Option Value := forceN m fun m => cnd (Nat.ble m (maxN k)) (some (.int k (.ofNat m))) none
noncomputable def booV (b : Bool) : Option Value := Bool.rec (motive := fun _ => Option Value) (some (.bool false)) (some (.bool true)) b
theorem booV_eq (b : Bool) : booV b = some (.bool b) := by cases b <;> rfl
noncomputable def addN (k : IntKind) (a b : Nat) : Option Value := natV k (Nat.add a b)
noncomputable def subN (k : IntKind) (a b : Nat) : Option Value := cnd (Nat.ble b a) (natV k (Nat.sub a b)) none
noncomputable def mulN (k : IntKind) (a b : Nat) : Option Value := natV k (Nat.mul a b)
noncomputable def quoN (k : IntKind) (a b : Nat) : Option Value := cnd (Nat.beq b 0) none (natV k (Nat.div a b))
noncomputable def remN (k : IntKind) (a b : Nat) : Option Value := cnd (Nat.beq b 0) none (natV k (Nat.mod a b))
noncomputable def eqlN (k : IntKind) (a b : Nat) : Option Value := booV (Nat.beq a b)
noncomputable def neqN (k : IntKind) (a b : Nat) : Option Value := booV (cnd (Nat.beq a b) false true)
noncomputable def lssN (k : IntKind) (a b : Nat) : Option Value := booV (Nat.blt a b)
noncomputable def leqN (k : IntKind) (a b : Nat) : Option Value := booV (Nat.ble a b)
noncomputable def gtrN (k : IntKind) (a b : Nat) : Option Value := booV (Nat.blt b a)
noncomputable def geqN (k : IntKind) (a b : Nat) : Option Value := booV (Nat.ble b a)
def noN (k : IntKind) (a b : Nat) : Option Value := none
def bitsN (k : IntKind) : Nat := match k with | .i8 => 8 | .i16 => 16 | .i32 => 32 | .i64 => 64 | .u8 => 8 | .u16 => 16 | .u32 => 32 | .u64 => 64
noncomputable def bothN (k : IntKind) (a b : Nat) (y : Option Value) : Option Value := cnd (Nat.ble a (maxN k)) (cnd (Nat.ble b (maxN k)) y none) none
noncomputable def andN (k : IntKind) (a b : Nat) : Option Value := bothN k a b (natV k (Nat.land a b))
noncomputable def orN (k : IntKind) (a b : Nat) : Option Value := bothN k a b (natV k (Nat.lor a b))
noncomputable def xorN (k : IntKind) (a b : Nat) : Option Value := bothN k a b (natV k (Nat.xor a b))
noncomputable def shrN (k : IntKind) (a b : Nat) : Option Value := cnd (Nat.ble b (bitsN k)) (natV k (Nat.shiftRight a b)) none
noncomputable def shlN (k : IntKind) (a b : Nat) : Option Value := cnd (Nat.ble b (bitsN k)) (natV k (Nat.shiftLeft a b)) none
noncomputable def shN (op : BinOp) : IntKind → Nat → Nat → Option Value := match op with | .shl => shlN | .shr => shrN | _ => noN
def isSh (op : BinOp) : Bool := match op with | .shl => true | .shr => true | _ => false
noncomputable def convN (k : IntKind) (n : Nat) : Option Value := cnd (Nat.ble n (maxN k)) (forceN n fun n => some (.int k (.ofNat n))) (cnd (Nat.ble 4 (kNum k)) (natV k (Nat.mod n (Nat.succ (maxN k)))) none)
noncomputable def binN (op : BinOp) : IntKind → Nat → Nat → Option Value :=
  match op with
  | .add => addN | .sub => subN | .mul => mulN | .quo => quoN | .rem => remN | .eql => eqlN | .neq => neqN | .lss => lssN | .leq => leqN | .gtr => gtrN | .geq => geqN | .and => andN | .or => orN | .xor => xorN
  | _ => noN
noncomputable def orA (x : Option Value) (y : Option Value) : Option Value := Option.rec (motive := fun _ => Option Value) y (fun v => some v) x
/-- Two numbers of one kind. -/
noncomputable def binQ (f : IntKind → Nat → Nat → Option Value) (x y : Value) : Option Value := onP (asNat x) fun k a => onP (asNat y) fun k' b => cnd (Nat.beq (kNum k) (kNum k')) (f k a b) none
noncomputable def nfO (y : Option Value) : Option Value := onO1 y fun v => nfV v some
theorem nfO_eq (y : Option Value) : nfO y = y := by
  cases y with
  | none => rfl
  | some p => exact nfV_eq p _
noncomputable def binV (f : IntKind → Nat → Nat → Option Value) (g : Value → Value → Option Value) (x y : Value) : Option Value := orA (binQ f x y) (nfO (g x y))
noncomputable def withH (h : FH) (x : Option Value) : Option (Value × FH) := onO1 x fun v => some (v, h)
noncomputable def kBin (f : IntKind → Nat → Nat → Option Value) (g : Value → Value → Option Value) (x y : Src) : KO := fun e h => rdS x e fun x => rdS y e fun y => withH h (binV f g x y)
/-- A shift: of two kinds. -/
noncomputable def shQ (f : IntKind → Nat → Nat → Option Value) (x y : Value) : Option Value := onP (asNat x) fun k a => onP (asNat y) fun _ b => f k a b
noncomputable def kSh (f : IntKind → Nat → Nat → Option Value) (g : Value → Value → Option Value) (x y : Src) : KO := fun e h => rdS x e fun x => rdS y e fun y => withH h (orA (shQ f x y) (nfO (g x y)))
noncomputable def orK (x y : Option (Value × FH)) : Option (Value × FH) := Option.rec (motive := fun _ => Option (Value × FH)) y (fun v => some v) x
noncomputable def convQ (k : IntKind) (x : Value) : Option Value := onP (asNat x) fun _ n => convN k n
noncomputable def kConv (k : IntKind) (g : KO) (x : Src) : KO := fun e h => rdS x e fun x => orK (withH h (convQ k x)) (kGen g e h)
def asLen (v : Value) : Option Nat := match v with | .slice _ n _ => some n | _ => none
noncomputable def lenQ (x : Value) : Option Value := onO1 (asLen x) fun n => forceN n fun n => some (.int .i64 (.ofNat n))
noncomputable def kLen (g : KO) (x : Src) : KO := fun e h => rdS x e fun x => orK (withH h (lenQ x)) (kGen g e h)
def asTup (v : Value) : Option (List Value) := match v with | .tuple cs => some cs.toList | _ => none
def nthL : List Value → Nat → Option Value
  | [], _ => none
  | v :: _, 0 => some v
  | _ :: vs, n + 1 => nthL vs n
noncomputable def extV (i : Nat) (h : FH) (v : Value) : Option (Value × FH) := onO1 (asTup v) fun l => onO1 (nthL l i) fun v => nfV v fun v => some (v, h)
noncomputable def kExt (i : Nat) (x : Src) : KO := fun e h => rdS x e (extV i h)
/-- A row of one element that is one cell. -/
noncomputable def rowV (elem : TypeId) (h : FH) (v : Value) : Option (Value × FH) := cnd (isMulti v) none (forceN h.next fun n => some (.slice (some ⟨n, 0, none⟩) 1 1, ⟨Tr.setP (some (.cells (.node (some v) .nil .nil) 1 elem false)) (pt n) h.tr, Nat.succ n⟩))
noncomputable def kRow (elem : TypeId) (x : Src) : KO := fun e h => rdS x e (rowV elem h)
/-! ### Building -/
def dropL : List Value → List Value → List Value
  | _ :: vs, _ :: cs => dropL vs cs
  | [], cs => cs
  | _ :: _, [] => []
def spl : Nat → List Value → List Value → List Value
  | n + 1, c :: cs, vs => c :: spl n cs vs
  | _ + 1, [], _ => []
  | 0, cs, vs => vs ++ dropL vs cs
def cellsL (v : Value) : List Value := match v with | .agg cs => cs.toList | v => [v]
noncomputable def bldL (place : Nat → Option (Nat × Nat)) : List Value → List (Nat × Value) → Option (List Value)
  | cells, [] => some cells
  | cells, (i, v) :: rest => onP (place i) fun off size => cnd (Nat.beq (cellsL v).length size) (cnd (Nat.ble (off + size) cells.length) (bldL place (spl off cells (cellsL v)) rest) none) none
noncomputable def gparts {β : Type} (e : Env) : List (Nat × Src) → (List (Nat × Value) → β) → β
  | [], k => k []
  | p :: ps, k => rdS p.2 e fun v => gparts e ps fun vs => k ((p.1, v) :: vs)
def anyTup (vs : List (Nat × Value)) : Bool := vs.any fun p => isTup p.2
noncomputable def kBuild (z : Option (List Value)) (pl : Option (Nat → Option (Nat × Nat))) (ps : List (Nat × Src)) : KO := fun e h => onO1 z fun z => onO1 pl fun pl => gparts e ps fun vs => cnd (anyTup vs) none (onO1 (bldL pl z vs) fun l => some (.agg l.toArray, h))
noncomputable def kBuildS (elem : TypeId) (sz len : Nat) (z : List Value) (ps : List (Nat × Src)) : KO := fun e h => gparts e ps fun vs => cnd (anyTup vs) none (onO1 (bldL (fun j => some (j * sz, sz)) z vs) fun l => forceN h.next fun n => some (.slice (some ⟨n, 0, none⟩) len len, ⟨Tr.setP (some (.cells (Tr.setL .nil 0 l) l.length elem false)) (pt n) h.tr, Nat.succ n⟩))
def placeOf (P : Program) (t : TypeId) : Option (Nat → Option (Nat × Nat)) :=
  match P.underlying t with
  | some (.struct fields) => cond (fields.toList.all (fun f => (P.info? f.type).isSome)) (some fun i => (fields[i]?).map fun f => (f.offset, P.cellsOf f.type)) none
  | some (.array _ elem) => cond (P.info? elem).isSome (some fun i => some (i * P.cellsOf elem, P.cellsOf elem)) none
  | _ => none
theorem dropL_eq : ∀ (vs cs : List Value), dropL vs cs = cs.drop vs.length
  | [], cs => by simp [dropL]
  | _ :: vs, [] => by simp [dropL]
  | _ :: vs, _ :: cs => by simp [dropL, dropL_eq vs cs]
theorem spl_eq : ∀ (n : Nat) (cs vs : List Value), n ≤ cs.length → spl n cs vs = cs.take n ++ vs ++ cs.drop (n + vs.length)
  | 0, cs, vs, _ => by simp [spl, dropL_eq]
  | n + 1, [], vs, h => by simp at h
  | n + 1, c :: cs, vs, h => by
    simp only [spl, List.take_succ_cons, List.cons_append]
    rw [spl_eq n cs vs (by simpa using h), show n + 1 + vs.length = (n + vs.length) + 1 by omega, List.drop_succ_cons]
theorem cellsL_eq (v : Value) : cellsL v = v.cells.toList := by cases v <;> rfl
theorem gparts_eq {β : Type} (e : Env) : ∀ (ps : List (Nat × Operand)) (k : List (Nat × Value) → β), gparts e (ps.map fun p => (p.1, src p.2)) k = k (ps.map fun p => (p.1, ev e p.2))
  | [], k => rfl
  | p :: ps, k => by simp only [List.map_cons, gparts, rdS_eq, gparts_eq e ps]
theorem fold_set (off : Nat) : ∀ (vs : List Value) (j : Nat) (cs : Array Value), off + j + vs.length ≤ cs.size →
    ((vs.zipIdx j).foldl (fun (cs : Array Value) (p : Value × Nat) => cs.setIfInBounds (off + p.2) p.1) cs).toList = cs.toList.take (off + j) ++ vs ++ cs.toList.drop (off + j + vs.length)
  | [], j, cs, h => by simp
  | v :: vs, j, cs, h => by
    simp only [List.zipIdx_cons, List.foldl_cons]
    simp only [List.length_cons] at h
    rw [fold_set off vs (j + 1) _ (by simp; omega)]
    simp only [Array.toList_setIfInBounds, List.length_cons]
    have hl : off + j < cs.toList.length := by simp; omega
    rw [show off + (j + 1) = (off + j) + 1 by omega, List.take_add_one, List.take_set_of_le (Nat.le_refl _), List.getElem?_set_self hl, List.drop_set_of_lt (by omega), show off + j + 1 + vs.length = off + j + (vs.length + 1) by omega]
    simp
theorem bldL_fill {place : Nat → Option (Nat × Nat)} : ∀ {vs : List (Nat × Value)} {cells : List Value} {l : List Value}, bldL place cells vs = some l → Instr.fill place cells.toArray vs = some l.toArray
  | [], cells, l, h => by
    simp only [bldL, Option.some.injEq] at h
    subst h
    rfl
  | (i, v) :: rest, cells, l, h => by
    unfold bldL at h
    obtain ⟨off, size, h1, h2⟩ := onP_some h
    obtain ⟨h3, h4⟩ := cnd_some' h2
    obtain ⟨h5, h6⟩ := cnd_some' h4
    have h3 := Nat.eq_of_beq_eq_true h3
    have h5 := Nat.le_of_ble_eq_true h5
    rw [cellsL_eq] at h3 h6
    unfold Instr.fill
    rw [h1]
    simp only
    have hsz : v.cells.size = size := by simpa using h3
    rw [if_neg (by simp [hsz]; omega)]
    have key : v.cells.zipIdx.foldl (fun (cs : Array Value) (x : Value × Nat) => match x with | (c, j) => cs.setIfInBounds (off + j) c) cells.toArray = (spl off cells v.cells.toList).toArray := by
      apply Array.ext'
      rw [spl_eq _ _ _ (by omega)]
      have := fold_set off v.cells.toList 0 cells.toArray (by simp [hsz]; omega)
      simp only [Nat.add_zero] at this
      rw [← this, ← Array.foldl_toList, Array.toList_zipIdx]
    exact (congrArg (fun a => Instr.fill place a rest) key).trans (bldL_fill h6)
theorem natV_wrap {k : IntKind} {m : Nat} {v : Value} (h : natV k m = some v) : v = .int k (k.wrap (m : Int)) ∧ m ≤ maxN k := by
  unfold natV at h
  rw [forceN_eq] at h
  obtain ⟨h1, h2⟩ := cnd_some h
  have h1 := Nat.le_of_ble_eq_true h1
  rw [wrap_small h1]
  exact ⟨h2.symm, h1⟩
theorem eqB (a b : Nat) : (Int.ofNat a == Int.ofNat b) = Nat.beq a b := by
  cases h : Nat.beq a b with
  | true => rw [Nat.eq_of_beq_eq_true h]; simp
  | false =>
    have : a ≠ b := fun q => by rw [q, Nat.beq_refl] at h; cases h
    simp
    omega
theorem ltB (a b : Nat) : decide (Int.ofNat a < Int.ofNat b) = Nat.blt a b := by
  cases h : Nat.blt a b with
  | true => rw [Nat.blt_eq] at h; simpa using h
  | false =>
    have : ¬ a < b := fun q => by rw [← Nat.blt_eq, h] at q; cases q
    simpa using this
theorem leB (a b : Nat) : decide (Int.ofNat a ≤ Int.ofNat b) = Nat.ble a b := by
  cases h : Nat.ble a b with
  | true => have := Nat.le_of_ble_eq_true h; simpa using this
  | false =>
    have : ¬ a ≤ b := fun q => by rw [Nat.ble_eq_true_of_le q] at h; cases h
    simpa using this
theorem maxN_lt (k : IntKind) : maxN k < 2 ^ k.bits := by cases k <;> decide
theorem bitsN_eq (k : IntKind) : bitsN k = k.bits := by cases k <;> rfl
theorem bvN {k : IntKind} {a : Nat} (h : a ≤ maxN k) : (BitVec.ofInt k.bits (Int.ofNat a)).toNat = a := by
  show (BitVec.ofInt k.bits (a : Int)).toNat = a
  rw [BitVec.ofInt_natCast, BitVec.toNat_ofNat]
  exact Nat.mod_eq_of_lt (Nat.lt_of_le_of_lt h (maxN_lt k))
theorem bothN_some {k : IntKind} {a b : Nat} {y : Option Value} {v : Value} (h : bothN k a b y = some v) : a ≤ maxN k ∧ b ≤ maxN k ∧ y = some v := by
  obtain ⟨h1, h2⟩ := cnd_some' h
  obtain ⟨h3, h4⟩ := cnd_some' h2
  exact ⟨Nat.le_of_ble_eq_true h1, Nat.le_of_ble_eq_true h3, h4⟩
theorem wrap_mod {k : IntKind} (h : Nat.ble 4 (kNum k) = true) (n : Nat) : k.wrap (n : Int) = ((n % (maxN k + 1) : Nat) : Int) := by
  cases k <;> first | (exact absurd h (by decide)) | (simp [IntKind.wrap, IntKind.bits, IntKind.signed, maxN])
theorem convN_ok {k : IntKind} {n : Nat} {v : Value} (h : convN k n = some v) : v = .int k (k.wrap (Int.ofNat n)) := by
  unfold convN at h
  cases hb : Nat.ble n (maxN k) with
  | true =>
    rw [hb, cnd_eq, cond_true, forceN_eq] at h
    simp only [Option.some.injEq] at h
    subst h
    have := wrap_small (k := k) (Nat.le_of_ble_eq_true hb)
    exact congrArg (Value.int k) this.symm
  | false =>
    rw [hb, cnd_eq, cond_false] at h
    obtain ⟨h1, h2⟩ := cnd_some' h
    obtain ⟨h3, h4⟩ := natV_wrap h2
    rw [wrap_small h4] at h3
    rw [h3]
    exact congrArg (Value.int k) (wrap_mod h1 n).symm
section
variable {P : Program} {h h' : FH} {e : Env}
theorem binN_ok {op : BinOp} {t : TypeId} {k : IntKind} {a b : Nat} {v : Value} (hs : binN op k a b = some v) : aBin P op t (.int k (.ofNat a)) (.int k (.ofNat b)) = some v := by
  cases op <;> simp only [binN] at hs <;> first | (simp [noN] at hs; done) | skip
  · have := (natV_wrap hs).1
    rw [this]
    simp only [aBin, aInt, if_true]
    rfl
  · obtain ⟨h1, h2⟩ := cnd_some' hs
    have h1 := Nat.le_of_ble_eq_true h1
    have := (natV_wrap h2).1
    rw [this]
    simp only [aBin, aInt, if_true]
    congr 3
    exact (Int.ofNat_sub h1).symm
  · have := (natV_wrap hs).1
    rw [this]
    simp only [aBin, aInt, if_true]
    rfl
  · unfold quoN at hs
    rw [cnd_eq] at hs
    cases hb : Nat.beq b 0 with
    | true => rw [hb] at hs; simp at hs
    | false =>
      rw [hb, cond_false] at hs
      have := (natV_wrap hs).1
      rw [this]
      have hb0 : ¬ ((.ofNat b : Int) = 0) := by
        intro q
        have : b = 0 := by simpa using q
        subst this
        simp at hb
      simp only [aBin, aInt, if_true]
      rw [if_neg hb0]
      rfl
  · unfold remN at hs
    rw [cnd_eq] at hs
    cases hb : Nat.beq b 0 with
    | true => rw [hb] at hs; simp at hs
    | false =>
      rw [hb, cond_false] at hs
      obtain ⟨h1, h2⟩ := natV_wrap hs
      rw [h1, wrap_small h2]
      have hb0 : ¬ ((.ofNat b : Int) = 0) := by
        intro q
        have : b = 0 := by simpa using q
        subst this
        simp at hb
      simp only [aBin, aInt, if_true]
      rw [if_neg hb0]
      rfl
  · obtain ⟨h1, h2, h3⟩ := bothN_some hs
    have := (natV_wrap h3).1
    rw [this]
    simp only [aBin, aInt, if_true]
    rw [BitVec.toNat_and, bvN h1, bvN h2]
    rfl
  · obtain ⟨h1, h2, h3⟩ := bothN_some hs
    have := (natV_wrap h3).1
    rw [this]
    simp only [aBin, aInt, if_true]
    rw [BitVec.toNat_or, bvN h1, bvN h2]
    rfl
  · obtain ⟨h1, h2, h3⟩ := bothN_some hs
    have := (natV_wrap h3).1
    rw [this]
    simp only [aBin, aInt, if_true]
    rw [BitVec.toNat_xor, bvN h1, bvN h2]
    rfl
  · simp only [eqlN, booV_eq, Option.some.injEq] at hs
    subst hs
    simp only [aBin, aInt, if_true, eqB]
  · simp only [neqN, booV_eq, Option.some.injEq] at hs
    subst hs
    simp only [aBin, aInt, if_true, bne, eqB]
    cases Nat.beq a b <;> rfl
  · simp only [lssN, booV_eq, Option.some.injEq] at hs
    subst hs
    simp only [aBin, aInt, if_true, ltB]
  · simp only [leqN, booV_eq, Option.some.injEq] at hs
    subst hs
    simp only [aBin, aInt, if_true, leB]
  · simp only [gtrN, booV_eq, Option.some.injEq] at hs
    subst hs
    simp only [aBin, aInt, if_true, gt_iff_lt, ltB]
  · simp only [geqN, booV_eq, Option.some.injEq] at hs
    subst hs
    simp only [aBin, aInt, if_true, ge_iff_le, leB]
theorem binV_ok {op : BinOp} {t : TypeId} {x y v : Value} (hs : binV (binN op) (aBin P op t) x y = some v) : aBin P op t x y = some v := by
  unfold binV at hs
  cases hq : binQ (binN op) x y with
  | none => rw [hq, nfO_eq] at hs; exact hs
  | some u =>
    rw [hq] at hs
    have hu : some u = some v := hs
    simp only [Option.some.injEq] at hu
    subst hu
    unfold binQ at hq
    obtain ⟨k, a, h1, h2⟩ := onP_some hq
    obtain ⟨k', b, h3, h4⟩ := onP_some h2
    obtain ⟨h5, h6⟩ := cnd_some' h4
    have := kNum_inj h5
    subst this
    rw [asNat_some h1, asNat_some h3]
    exact binN_ok h6
theorem shQ_ok {op : BinOp} {t : TypeId} {x y v : Value} (hs : shQ (shN op) x y = some v) : aBin P op t x y = some v := by
  obtain ⟨k, a, h1, h2⟩ := onP_some hs
  obtain ⟨k', b, h3, h4⟩ := onP_some h2
  rw [asNat_some h1, asNat_some h3]
  have hb : ¬ (Int.ofNat b < 0) := by simp
  cases op <;> simp only [shN] at h4 <;> first | (simp [noN] at h4; done) | skip
  · obtain ⟨h5, h6⟩ := cnd_some' h4
    have h5 := Nat.le_of_ble_eq_true h5
    rw [bitsN_eq] at h5
    rw [(natV_wrap h6).1]
    simp only [aBin, aShift]
    rw [if_neg hb]
    have : min (Int.ofNat b).toNat k.bits = b := Nat.min_eq_left h5
    rw [this]
    congr 3
    show (a : Int) * 2 ^ b = ((a <<< b : Nat) : Int)
    rw [Nat.shiftLeft_eq]
    push_cast
    rfl
  · obtain ⟨h5, h6⟩ := cnd_some' h4
    have h5 := Nat.le_of_ble_eq_true h5
    rw [bitsN_eq] at h5
    obtain ⟨h7, h8⟩ := natV_wrap h6
    rw [h7, wrap_small h8]
    simp only [aBin, aShift]
    rw [if_neg hb]
    have : min (Int.ofNat b).toNat k.bits = b := Nat.min_eq_left h5
    rw [this]
    congr 2
    show (a : Int).fdiv (2 ^ b) = ((a >>> b : Nat) : Int)
    rw [Nat.shiftRight_eq_div_pow]
    have h2 : (0 : Int) ≤ 2 ^ b := Int.pow_nonneg (by decide)
    rw [Int.fdiv_eq_ediv_of_nonneg _ h2]
    push_cast
    rfl
theorem orA_ok {x y z : Option Value} {v : Value} (hs : orA x y = some v) (h1 : x = some v → z = some v) (h2 : y = some v → z = some v) : z = some v := by
  cases x with
  | none => exact h2 hs
  | some u => exact h1 hs
theorem orK_ok {x y z : Option (Value × FH)} {v : Value × FH} (hs : orK x y = some v) (h1 : x = some v → z = some v) (h2 : y = some v → z = some v) : z = some v := by
  cases x with
  | none => exact h2 hs
  | some u => exact h1 hs
theorem nthL_eq : ∀ (l : List Value) (i : Nat), nthL l i = l[i]?
  | [], i => by simp [nthL]
  | v :: vs, 0 => rfl
  | v :: vs, i + 1 => by simp [nthL, nthL_eq vs i]
theorem withH_some {x : Option Value} {v : Value} (hs : withH h x = some (v, h')) : x = some v ∧ h' = h := by
  obtain ⟨u, h1, h2⟩ := onO1_some hs
  simp only [Option.some.injEq, Prod.mk.injEq] at h2
  obtain ⟨rfl, rfl⟩ := h2
  exact ⟨h1, rfl⟩
/-! ## An operation, made ready -/
inductive KI where
  | move (x : Src)
  | load1 (x : Src)
  | loadN (k : Nat) (x : Src)
  | store1 (x y : Src)
  | storeN (k : Nat) (x y : Src)
  | box (t : TypeId) (x : Src)
  | alloc (t : TypeId) (z : Option (Tr Value × Nat))
  | nil (x : Src)
  | off (d : Nat) (x : Src)
  | idxA (n sz : Nat) (x i : Src)
  | idxS (sz : Nat) (x i : Src)
  | pick (c a b : Src)
  | not (x : Src)
  | bin (f : IntKind → Nat → Nat → Option Value) (g : Value → Value → Option Value) (x y : Src)
  | sh (f : IntKind → Nat → Nat → Option Value) (g : Value → Value → Option Value) (x y : Src)
  | conv (k : IntKind) (g : KO) (x : Src)
  | len (g : KO) (x : Src)
  | ext (i : Nat) (x : Src)
  | row (elem : TypeId) (x : Src)
  | build (z : Option (List Value)) (pl : Option (Nat → Option (Nat × Nat))) (ps : List (Nat × Src))
  | buildS (elem : TypeId) (sz len : Nat) (z : List Value) (ps : List (Nat × Src))
  | gen (k : KO)
noncomputable def kiRun (k : KI) : KO := KI.rec (motive := fun _ => KO) kMove kLoad1 kLoadN kStore1 kStoreN kBox kAlloc kNil kOff kIdxA kIdxS kPick kNot kBin kSh kConv kLen kExt kRow kBuild kBuildS kGen k
noncomputable def gki (P : Program) (o : Oper) : KI :=
  match o.op with
  | .move x => .move (src x)
  | .assign x => .move (src x)
  | .load t a => match aggT P t with | some false => .load1 (src a) | some true => .loadN (P.cellsOf t) (src a) | none => .gen (fOp P o)
  | .store t a v => match okStore P t 1 with | true => .store1 (src a) (src v) | false => cond (P.info? t).isSome (.storeN (P.cellsOf t) (src a) (src v)) (.gen (fOp P o))
  | .box t x => .box t (src x)
  | .alloc t => .alloc t (fZero P t)
  | .nilCheck x => .nil (src x)
  | .fieldAddr s x f => match P.underlying s with | some (.struct fs) => (match fs[f]? with | some fd => cond (Nat.beq (P.cellsOf fd.type) 0) (.gen (fOp P o)) (.off fd.offset (src x)) | none => .gen (fOp P o)) | _ => .gen (fOp P o)
  | .indexAddr t x i => match P.underlying t with
    | some (.array n elem) => cond (P.info? elem).isSome (.idxA n (P.cellsOf elem) (src x) (src i)) (.gen (fOp P o))
    | some (.slice elem) => cond (P.info? elem).isSome (.idxS (P.cellsOf elem) (src x) (src i)) (.gen (fOp P o))
    | _ => .gen (fOp P o)
  | .pick c a b => .pick (src c) (src a) (src b)
  | .unOp .not _ x => .not (src x)
  | .binOp op t x y _ => cond (isSh op) (.sh (shN op) (aBin P op t) (src x) (src y)) (.bin (binN op) (aBin P op t) (src x) (src y))
  | .convert s d x => match P.underlying s, P.underlying d with | some (.int _), some (.int k) => .conv k (fOp P o) (src x) | _, _ => .gen (fOp P o)
  | .extract t i => .ext i (src t)
  | .build t parts => .build (zeroCellsOf P t) (placeOf P t) (parts.toList.map fun p => (p.1, src p.2))
  | .buildSlice t len parts => match P.underlying t with
    | some (.slice elem) => (match P.info? elem, zeroCellsOf P elem with | some i, some z => cond (Nat.ble (len * i.size) 16777216 && Nat.beq z.length i.size && Nat.blt len openCap) (.buildS elem i.size len ((List.replicate len z).flatten) (parts.toList.map fun p => (p.1, src p.2))) (.gen (fOp P o)) | _, _ => .gen (fOp P o))
    | _ => .gen (fOp P o)
  | .call { callee := .builtin .len, args, argTypes } => match args.toList, argTypes.toList with
    | [x], [t] => (match P.underlying t with | some (.slice _) => .len (fOp P o) (src x) | _ => .gen (fOp P o))
    | _, _ => .gen (fOp P o)
  | _ => .gen (fOp P o)
noncomputable def gkind (P : Program) (o : Oper) : KO := kiRun (gki P o)
theorem fLoad_V {t : TypeId} {v x : Value} (ha : aggT P t = some false) (hs : loadV h v = some (x, h')) : fLoad P h t v = some x ∧ h' = h := by
  obtain ⟨b, off, g1, g2⟩ := onP_some hs
  rw [asLoc_some g1]
  obtain ⟨c, n, e, ro, g3, g4⟩ := onC_some g2
  simp only [blockF] at g3
  have hg := asCells_some g3
  obtain ⟨h1, h2⟩ := cnd_some' g4
  rw [Tr.cellK_cell] at h2
  simp only [Option.some.injEq, Prod.mk.injEq] at h2
  obtain ⟨h2, rfl⟩ := h2
  refine ⟨?_, rfl⟩
  simp only [fLoad, hg, ha, h1, cond_true]
  rw [← h2]
theorem fLoad_VN {t : TypeId} {v x : Value} (ha : aggT P t = some true) (hs : loadVN (P.cellsOf t) h v = some (x, h')) : fLoad P h t v = some x ∧ h' = h := by
  obtain ⟨b, off, g1, g2⟩ := onP_some hs
  rw [asLoc_some g1]
  obtain ⟨c, n, e, ro, g3, g4⟩ := onC_some g2
  simp only [blockF] at g3
  have hg := asCells_some g3
  obtain ⟨h1, h2⟩ := cnd_some g4
  simp only [Prod.mk.injEq] at h2
  obtain ⟨h2, rfl⟩ := h2
  refine ⟨?_, rfl⟩
  simp only [fLoad, hg, ha, h1, cond_true]
  rw [← h2]
theorem cond_no {α : Type} {b : Bool} {x : Option α} {y : α} (hs : cond b none x = some y) : b = false ∧ x = some y := by
  cases b
  · exact ⟨rfl, by simpa using hs⟩
  · simp at hs
theorem fStore_V {t : TypeId} {a v x : Value} (ha : okStore P t 1 = true) (hs : storeV h a v = some (x, h')) : x = undef ∧ fStore P h t a v = some h' := by
  obtain ⟨b, off, g1, g2⟩ := onP_some hs
  rw [asLoc_some g1]
  obtain ⟨hm, g2⟩ := cnd_no g2
  obtain ⟨c, n, e, ro, g3, g4⟩ := onC_some g2
  simp only [blockF] at g3
  have hg := asCells_some g3
  obtain ⟨hro, g4⟩ := cnd_no g4
  obtain ⟨h1, h2⟩ := cnd_some g4
  subst hro
  simp only [Prod.mk.injEq] at h2
  obtain ⟨rfl, rfl⟩ := h2
  refine ⟨rfl, ?_⟩
  have h1' : Nat.ble (off + [v].length) n = true := h1
  have hst : fStoreCells h b off [v] = some (h.set b (.cells (c.setL off [v]) n e false)) := by
    simp only [fStoreCells, hg, h1', cond_true]
  have hcell : c.setL off [v] = c.put1 off v := rfl
  rw [hcell] at hst
  cases v <;> first | (simp [isMulti] at hm; done) | (simp only [fStore, ha, cond_true]; exact hst)
theorem fStore_VN {t : TypeId} {a v x : Value} (ha : (P.info? t).isSome = true) (hs : storeVN (P.cellsOf t) h a v = some (x, h')) : x = undef ∧ fStore P h t a v = some h' := by
  obtain ⟨b, off, g1, g2⟩ := onP_some hs
  rw [asLoc_some g1]
  obtain ⟨l, g5, g6⟩ := onO1_some g2
  obtain ⟨cs, rfl, rfl⟩ := asAgg_some g5
  obtain ⟨h0, g6⟩ := cnd_some' g6
  obtain ⟨c, n, e, ro, g3, g4⟩ := onC_some g6
  simp only [blockF] at g3
  have hg := asCells_some g3
  obtain ⟨hro, g4⟩ := cnd_no g4
  obtain ⟨h1, h2⟩ := cnd_some g4
  subst hro
  simp only [Prod.mk.injEq] at h2
  obtain ⟨rfl, rfl⟩ := h2
  refine ⟨rfl, ?_⟩
  have hok : okStore P t cs.size = true := by
    unfold okStore
    rw [ha, Bool.and_true, ← Array.length_toList]
    exact h0
  simp only [fStore, hok, cond_true, fStoreCells, hg, h1]
theorem fBox_V {t : TypeId} {o : Oper} {a : Operand} {x : Value} (ho : o.op = .box t a) (hs : boxV t h (ev e a) = some (x, h')) : fOp P o e h = some (x, h') := by
  have key : ∀ v : Value, ev e a = v → isTup v = false → newB h (.cells (Tr.nil.setL 0 v.cells.toList) v.cells.toList.length t false) = some (x, h') → fOp P o e h = some (x, h') := by
    intro v he hv hq
    rw [newB_eq] at hq
    unfold fOp
    rw [ho]
    simp only [he]
    cases v <;> first | (simp [isTup] at hv; done) | exact hq
  unfold boxV at hs
  split at hs
  · simp at hs
  · rename_i cs hev
    refine key (.agg cs) hev rfl ?_
    exact hs
  · rename_i v h1 h2
    generalize hq : ev e a = v at hs h1 h2
    cases v <;> first | exact (h1 _ rfl).elim | exact (h2 _ rfl).elim | exact key _ hq rfl hs
theorem asTup_some {v : Value} {l : List Value} (h : asTup v = some l) : ∃ cs : Array Value, v = .tuple cs ∧ cs.toList = l := by
  unfold asTup at h
  split at h
  · simp only [Option.some.injEq] at h
    exact ⟨_, rfl, h⟩
  · simp at h
theorem asLen_some {v : Value} {n : Nat} (h : asLen v = some n) : ∃ a c, v = .slice a n c := by
  unfold asLen at h
  split at h
  · simp only [Option.some.injEq] at h
    subst h
    exact ⟨_, _, rfl⟩
  · simp at h
theorem fRow_V {o : Oper} {t elem : TypeId} {x : Operand} {i : TypeInfo} {z v : Value} (ho : o.op = .buildSlice t 1 #[(0, x)]) (hu : P.underlying t = some (.slice elem)) (hi : P.info? elem = some i) (hz : zeroCellsOf P elem = some [z]) (hsz : i.size = 1)
    (hs : rowV elem h (ev e x) = some (v, h')) : fOp P o e h = some (v, h') := by
  obtain ⟨hm, h2⟩ := cnd_no hs
  rw [forceN_eq] at h2
  simp only [Option.some.injEq, Prod.mk.injEq] at h2
  obtain ⟨rfl, rfl⟩ := h2
  unfold fOp
  rw [ho]
  simp only
  generalize hq : ev e x = q at hm ⊢
  have hpm : (#[(0, x)].map fun (p : Nat × Operand) => (p.1, ev e p.2)) = #[(0, q)] := by simp [hq]
  have hone : q.cells = #[q] := by cases q <;> first | rfl | (simp [isMulti] at hm)
  have htup : isTup q = false := by cases q <;> first | rfl | (simp [isMulti] at hm)
  have hfill : Instr.fill (fun j => some (j * i.size, i.size)) ((List.replicate 1 [z]).flatten).toArray [(0, q)] = some #[q] := by
    simp [Instr.fill, hsz, hone]
  have hb : aBuildSlice P ⟨.nil, 0⟩ t 1 #[(0, q)] = some (.slice (some ⟨0, 0, none⟩) 1 1, (AH.mk .nil 0).alloc (.cells [q] elem false)) := by
    unfold aBuildSlice
    simp only [List.any_cons, List.any_nil, htup, Bool.or_false, Bool.false_eq_true, if_false, hu, hi, hz]
    rw [if_pos ⟨by omega, by simp [hsz], by decide⟩]
    simp only [hfill]
  have : fBuildSlice P h t 1 #[(0, q)] = some (.slice (some ⟨h.next, 0, none⟩) 1 1, h.alloc (.cells (Tr.nil.setL 0 [q]) 1 elem false)) := by
    unfold fBuildSlice
    simp only [hb, AH.get_alloc, if_true]
    rfl
  rw [FH.alloc_eq, Tr.setL, Tr.setL, Tr.put1_eq] at this
  rw [Tr.setP_pt]
  rw [hpm]
  exact this
theorem gkind_ok {o : Oper} {v : Value} (hs : gkind P o e h = some (v, h')) : fOp P o e h = some (v, h') := by
  have gen : ∀ {o : Oper}, kGen (fOp P o) e h = some (v, h') → fOp P o e h = some (v, h') := fun hq => by
    unfold kGen at hq
    rwa [nfR_eq] at hq
  obtain ⟨dst, op, ty, pos, af, gd⟩ := o
  unfold gkind gki at hs
  simp only at hs
  split at hs
  · simp only [kiRun, kMove, rdS_eq] at hs
    exact hs
  · simp only [kiRun, kMove, rdS_eq] at hs
    exact hs
  · rename_i t a
    cases ha : aggT P t with
    | none => rw [ha] at hs; exact gen hs
    | some b =>
      cases b with
      | true =>
        rw [ha] at hs
        simp only [kiRun, kLoadN, rdS_eq] at hs
        obtain ⟨h1, rfl⟩ := fLoad_VN ha hs
        simp only [fOp, h1, Option.map_some]
      | false =>
        rw [ha] at hs
        simp only [kiRun, kLoad1, rdS_eq] at hs
        obtain ⟨h1, rfl⟩ := fLoad_V ha hs
        simp only [fOp, h1, Option.map_some]
  · rename_i t a x
    cases ha : okStore P t 1 with
    | false =>
      rw [ha] at hs
      simp only at hs
      cases hi : (P.info? t).isSome with
      | false => rw [hi] at hs; exact gen hs
      | true =>
        rw [hi, cond_true] at hs
        simp only [kiRun, kStoreN, rdS_eq] at hs
        obtain ⟨rfl, h1⟩ := fStore_VN hi hs
        simp only [fOp, h1, Option.map_some]
    | true =>
      rw [ha] at hs
      simp only [kiRun, kStore1, rdS_eq] at hs
      obtain ⟨rfl, h1⟩ := fStore_V ha hs
      simp only [fOp, h1, Option.map_some]
  · rename_i t x
    simp only [kiRun, kBox, rdS_eq] at hs
    exact fBox_V rfl hs
  · rename_i t
    simp only [kiRun, kAlloc] at hs
    simp only [fOp]
    obtain ⟨c, n, hz, h2⟩ := onP_some hs
    rw [newB_eq] at h2
    rw [hz]
    exact h2
  · rename_i x
    simp only [kiRun, kNil, rdS_eq] at hs
    obtain ⟨a, h1, h2⟩ := onO1_some hs
    rw [asPtr_some h1] at h2
    simp only [Option.some.injEq, Prod.mk.injEq] at h2
    obtain ⟨rfl, rfl⟩ := h2
    simp only [fOp, calm, aOp, asPtr_some h1]
  · rename_i s x f
    rcases hu : P.underlying s with _ | d
    · rw [hu] at hs; exact gen hs
    cases d with
    | struct fs =>
      rw [hu] at hs
      simp only at hs
      rcases hf : fs[f]? with _ | fd
      · rw [hf] at hs; exact gen hs
      · rw [hf] at hs
        simp only at hs
        cases hb : Nat.beq (P.cellsOf fd.type) 0 with
        | true => rw [hb] at hs; exact gen hs
        | false =>
          rw [hb, cond_false] at hs
          simp only [kiRun, kOff, rdS_eq] at hs
          obtain ⟨b, off, h1, h2⟩ := onP_some hs
          rw [forceN_eq] at h2
          simp only [Option.some.injEq, Prod.mk.injEq] at h2
          obtain ⟨rfl, rfl⟩ := h2
          have hne : ¬ (P.cellsOf fd.type = 0) := fun q => by rw [q] at hb; cases hb
          simp only [fOp, calm, aOp, aFieldAddr, hu, hf, asLoc_some h1, if_neg hne, Option.map_some]
          rfl
    | _ => rw [hu] at hs; exact gen hs
  · rename_i t x i
    rcases hu : P.underlying t with _ | d
    · rw [hu] at hs; exact gen hs
    cases d with
    | array n elem =>
      rw [hu] at hs
      simp only at hs
      cases hi : (P.info? elem).isSome with
      | false => rw [hi] at hs; exact gen hs
      | true =>
        rw [hi, cond_true] at hs
        simp only [kiRun, kIdxA, rdS_eq] at hs
        obtain ⟨b, off, g1, g2⟩ := onP_some hs
        obtain ⟨k, j, g3, g4⟩ := onP_some g2
        obtain ⟨h1, h2⟩ := cnd_some' g4
        rw [forceN_eq] at h2
        simp only [Option.some.injEq, Prod.mk.injEq] at h2
        obtain ⟨rfl, rfl⟩ := h2
        rw [Nat.blt_eq] at h1
        have hc : 0 ≤ Int.ofNat j ∧ Int.ofNat j < (n : Int) ∧ (P.info? elem).isSome = true := ⟨Int.natCast_nonneg j, Int.ofNat_lt.2 h1, hi⟩
        simp only [fOp, calm, aOp, aIndexAddr, hu, asLoc_some g1, asNat_some g3, if_pos hc, Option.map_some]
        rfl
    | slice elem =>
      rw [hu] at hs
      simp only at hs
      cases hi : (P.info? elem).isSome with
      | false => rw [hi] at hs; exact gen hs
      | true =>
        rw [hi, cond_true] at hs
        simp only [kiRun, kIdxS, rdS_eq] at hs
        obtain ⟨⟨b, off⟩, n, g1, g2⟩ := onP_some hs
        obtain ⟨k, j, g3, g4⟩ := onP_some g2
        obtain ⟨h1, h2⟩ := cnd_some' g4
        simp only at h2
        rw [forceN_eq] at h2
        simp only [Option.some.injEq, Prod.mk.injEq] at h2
        obtain ⟨rfl, rfl⟩ := h2
        rw [Nat.blt_eq] at h1
        obtain ⟨c, hx⟩ := asRow_some g1
        have hc : 0 ≤ Int.ofNat j ∧ Int.ofNat j < (n : Int) ∧ (P.info? elem).isSome = true := ⟨Int.natCast_nonneg j, Int.ofNat_lt.2 h1, hi⟩
        simp only [fOp, calm, aOp, aIndexAddr, hu, hx, asNat_some g3, if_pos hc, Option.map_some]
        rfl
    | _ => rw [hu] at hs; exact gen hs
  · rename_i c a b
    simp only [kiRun, kPick, rdS_eq] at hs
    obtain ⟨t, h1, h2⟩ := onO1_some hs
    simp only [fOp, calm, aOp, asBool_some h1]
    cases t <;> exact h2
  · rename_i t x
    simp only [kiRun, kNot, rdS_eq] at hs
    obtain ⟨b, h1, h2⟩ := onO1_some hs
    simp only [fOp, calm, aOp, asBool_some h1, aUn, Option.map_some]
    cases b <;> exact h2
  · rename_i op t x y yt
    cases hsh : isSh op with
    | true =>
      rw [hsh, cond_true] at hs
      simp only [kiRun, kSh, rdS_eq] at hs
      obtain ⟨h1, rfl⟩ := withH_some hs
      have h2 : aBin P op t (ev e x) (ev e y) = some v := orA_ok h1 shQ_ok (fun q => by rwa [nfO_eq] at q)
      simp only [fOp, calm, aOp, h2, Option.map_some]
    | false =>
      rw [hsh, cond_false] at hs
      simp only [kiRun, kBin, rdS_eq] at hs
      obtain ⟨h1, rfl⟩ := withH_some hs
      have h2 := binV_ok h1
      simp only [fOp, calm, aOp, h2, Option.map_some]
  · rename_i s d x
    rcases hu : P.underlying s with _ | us
    · rw [hu] at hs; exact gen hs
    rcases hd : P.underlying d with _ | ud
    · rw [hu, hd] at hs; cases us <;> exact gen hs
    rw [hu, hd] at hs
    cases us <;> cases ud <;> first | exact gen hs | skip
    rename_i k0 k
    simp only [kiRun, kConv, rdS_eq] at hs
    refine orK_ok hs (fun q => ?_) (fun q => gen q)
    obtain ⟨h1, rfl⟩ := withH_some q
    obtain ⟨k1, n, h2, h3⟩ := onP_some h1
    have h4 := convN_ok h3
    simp only [fOp, fConvert, hu, hd, asNat_some h2, h4]
  · rename_i t i
    simp only [kiRun, kExt, rdS_eq] at hs
    obtain ⟨l, h1, h2⟩ := onO1_some hs
    obtain ⟨u, h3, h4⟩ := onO1_some h2
    rw [nfV_eq] at h4
    simp only [Option.some.injEq, Prod.mk.injEq] at h4
    obtain ⟨rfl, rfl⟩ := h4
    obtain ⟨cs, hv, rfl⟩ := asTup_some h1
    rw [nthL_eq, Array.getElem?_toList] at h3
    simp only [fOp, calm, aOp, hv, h3, Option.map_some]
  · rename_i t parts
    simp only [kiRun, kBuild] at hs
    obtain ⟨z, hz, h1⟩ := onO1_some hs
    obtain ⟨pl, hpl, h2⟩ := onO1_some h1
    rw [gparts_eq] at h2
    obtain ⟨ht, h3⟩ := cnd_no h2
    obtain ⟨l, h4, h5⟩ := onO1_some h3
    simp only [Option.some.injEq, Prod.mk.injEq] at h5
    obtain ⟨rfl, rfl⟩ := h5
    have hf := bldL_fill h4
    have hm : (parts.map fun (p : Nat × Operand) => (p.1, ev e p.2)).toList = parts.toList.map fun p => (p.1, ev e p.2) := by simp
    have hb : aBuild P t (parts.map fun (p : Nat × Operand) => (p.1, ev e p.2)) = some (.agg l.toArray) := by
      unfold aBuild
      rw [hm]
      unfold anyTup at ht
      rw [ht]
      simp only [Bool.false_eq_true, if_false, hz]
      unfold placeOf at hpl
      rcases hu : P.underlying t with _ | d
      · rw [hu] at hpl; simp at hpl
      rw [hu] at hpl
      cases d with
      | struct fields =>
        simp only at hpl
        cases ha : fields.toList.all (fun f => (P.info? f.type).isSome) with
        | false => rw [ha] at hpl; simp at hpl
        | true =>
          rw [ha] at hpl
          simp only [cond_true, Option.some.injEq] at hpl
          subst hpl
          simp only [hf, Option.map_some]
          rw [if_pos ha]
      | array n elem =>
        simp only at hpl
        cases ha : (P.info? elem).isSome with
        | false => rw [ha] at hpl; simp at hpl
        | true =>
          rw [ha] at hpl
          simp only [cond_true, Option.some.injEq] at hpl
          subst hpl
          simp only [hf, Option.map_some]
          rw [if_pos ha]
      | _ => simp at hpl
    simp only [fOp, calm, aOp]
    have hb' : aBuild P t (parts.map fun (x : Nat × Operand) => match x with | (i, x) => (i, ev e x)) = some (.agg l.toArray) := hb
    rw [hb']
    rfl
  · rename_i t len parts
    rcases hu : P.underlying t with _ | d
    · rw [hu] at hs; exact gen hs
    rw [hu] at hs
    cases d with
    | slice elem =>
      simp only at hs
      rcases hi : P.info? elem with _ | i
      · rw [hi] at hs; exact gen hs
      rcases hz : zeroCellsOf P elem with _ | z
      · rw [hi, hz] at hs; exact gen hs
      rw [hi, hz] at hs
      simp only at hs
      cases hc : (Nat.ble (len * i.size) 16777216 && Nat.beq z.length i.size && Nat.blt len openCap) with
      | false => rw [hc] at hs; exact gen hs
      | true =>
        rw [hc, cond_true] at hs
        simp only [kiRun, kBuildS] at hs
        rw [gparts_eq] at hs
        obtain ⟨ht, h3⟩ := cnd_no hs
        obtain ⟨l, h4, h5⟩ := onO1_some h3
        rw [forceN_eq] at h5
        simp only [Option.some.injEq, Prod.mk.injEq] at h5
        obtain ⟨rfl, rfl⟩ := h5
        simp only [Bool.and_eq_true] at hc
        obtain ⟨⟨c1, c2⟩, c3⟩ := hc
        have c1 := Nat.le_of_ble_eq_true c1
        have c2 := Nat.eq_of_beq_eq_true c2
        rw [Nat.blt_eq] at c3
        have hf := bldL_fill h4
        have hm : (parts.map fun (p : Nat × Operand) => (p.1, ev e p.2)).toList = parts.toList.map fun p => (p.1, ev e p.2) := by simp
        have hb : aBuildSlice P ⟨.nil, 0⟩ t len (parts.map fun (p : Nat × Operand) => (p.1, ev e p.2)) = some (.slice (some ⟨0, 0, none⟩) len len, (AH.mk .nil 0).alloc (.cells l elem false)) := by
          unfold aBuildSlice
          rw [hm]
          unfold anyTup at ht
          rw [ht]
          simp only [Bool.false_eq_true, if_false, hu, hi, hz]
          rw [if_pos ⟨c1, c2, c3⟩]
          simp only [hf]
        have hbs : fBuildSlice P h t len (parts.map fun (p : Nat × Operand) => (p.1, ev e p.2)) = some (.slice (some ⟨h.next, 0, none⟩) len len, h.alloc (.cells (Tr.nil.setL 0 l) l.length elem false)) := by
          unfold fBuildSlice
          simp only [hb, AH.get_alloc, if_true]
        rw [FH.alloc_eq] at hbs
        rw [Tr.setP_pt]
        simp only [fOp]
        exact hbs
    | _ => exact gen hs
  · rename_i args ats
    rcases hp : args.toList with _ | ⟨x, _ | ⟨q, ps⟩⟩
    · rw [hp] at hs; exact gen hs
    · rcases ht : ats.toList with _ | ⟨t, _ | ⟨q, ps⟩⟩
      · rw [hp, ht] at hs; exact gen hs
      · rw [hp, ht] at hs
        simp only at hs
        rcases hu : P.underlying t with _ | ut
        · rw [hu] at hs; exact gen hs
        rw [hu] at hs
        cases ut with
        | slice elem =>
          simp only [kiRun, kLen, rdS_eq] at hs
          refine orK_ok hs (fun q => ?_) (fun q => gen q)
          obtain ⟨h1, rfl⟩ := withH_some q
          obtain ⟨n, h2, h3⟩ := onO1_some h1
          rw [forceN_eq] at h3
          simp only [Option.some.injEq] at h3
          subst h3
          obtain ⟨a, c, hx⟩ := asLen_some h2
          simp only [fOp, hp, List.map_cons, List.map_nil, fBuiltin, ht, hx, fLen, aLen, hu, Option.map_some]
          rfl
        | _ => exact gen hs
      · rw [hp, ht] at hs; exact gen hs
    · rw [hp] at hs; exact gen hs
  · exact gen hs
end
end Go.Am
