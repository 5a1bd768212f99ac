/-
  What it means that a world is told by abstract blocks: the relation of values, of rows, of blocks, of worlds; how it is kept. Laws of load and store over it.
-/
import Derived.Test.YtkggibodlljkcaiGreatAm1
import Derived.Laws.CopyRow
import Derived.Laws.Append
import Derived.Laws.StructEq
set_option linter.unusedVariables false
namespace Go.Am

/-- Where an abstract block lies: the block, how many cells stand ahead, how many cells the block has, how many an element takes. -/
structure Rec where
  blk : Nat
  shift : Nat
  total : Nat
  esz : Nat

abbrev Fi := Nat → Option Rec

/-- Function values: the loop of a yield is renamed. -/
inductive FR (φ : Fi) : Fn → Fn → Prop
  | func (f : FuncId) : FR φ (.func f) (.func f)
  | yield {l : Nat} {r : Rec} (h : φ l = some r) : FR φ (.yield l) (.yield r.blk)

inductive VR (φ : Fi) : Value → Value → Prop
  | junk (v : Value) : VR φ (.tuple #[]) v
  | bool (b : Bool) : VR φ (.bool b) (.bool b)
  | int (k : IntKind) (n : Int) : VR φ (.int k n) (.int k n)
  | string (s : ByteArray) : VR φ (.string s) (.string s)
  | ptrNil : VR φ (.pointer none) (.pointer none)
  | ptr {b off : Nat} {r : Rec} (h : φ b = some r) : VR φ (.pointer (some ⟨b, off, none⟩)) (.pointer (some ⟨r.blk, r.shift + off, none⟩))
  | sliceNil (n c : Nat) (hc : c < openCap) : VR φ (.slice none n c) (.slice none n c)
  | slice {b off n c : Nat} {r : Rec} (h : φ b = some r) (hc : c < openCap) : VR φ (.slice (some ⟨b, off, none⟩) n c) (.slice (some ⟨r.blk, r.shift + off, none⟩) n c)
  | sliceO {b off n c : Nat} {r : Rec} (h : φ b = some r) (hc : c < openCap) (hn : n ≤ c) (ht : r.shift + off + c * r.esz = r.total) : VR φ (.slice (some ⟨b, off, none⟩) n openCap) (.slice (some ⟨r.blk, r.shift + off, none⟩) n c)
  | sliceE {b off o' : Nat} {r : Rec} (h : φ b = some r) : VR φ (.slice (some ⟨b, off, none⟩) 0 openCap) (.slice (some ⟨r.blk, o', none⟩) 0 0)
  | mapNil : VR φ (.map none) (.map none)
  | map {b : Nat} {r : Rec} (h : φ b = some r) : VR φ (.map (some b)) (.map (some r.blk))
  | func {fn fn' : Fn} {xs xs' ys ys' : Array Value} (hf : FR φ fn fn') (h1 : xs.size = xs'.size) (h2 : ys.size = ys'.size)
      (h3 : ∀ (i : Nat) (v v' : Value), xs[i]? = some v → xs'[i]? = some v' → VR φ v v') (h4 : ∀ (i : Nat) (v v' : Value), ys[i]? = some v → ys'[i]? = some v' → VR φ v v') : VR φ (.func fn xs ys) (.func fn' xs' ys')
  | nilFunc : VR φ .nilFunc .nilFunc
  | nilIface : VR φ .nilIface .nilIface
  | iface {t : TypeId} {v v' : Value} (h : VR φ v v') : VR φ (.iface t v) (.iface t v')
  | agg {xs xs' : Array Value} (h1 : xs.size = xs'.size) (h2 : ∀ (i : Nat) (v : Value), xs[i]? = some v → isMulti v = false)
      (h3 : ∀ (i : Nat) (v v' : Value), xs[i]? = some v → xs'[i]? = some v' → VR φ v v') : VR φ (.agg xs) (.agg xs')
  | tuple {xs xs' : Array Value} (h1 : xs.size = xs'.size) (h3 : ∀ (i : Nat) (v v' : Value), xs[i]? = some v → xs'[i]? = some v' → VR φ v v') : VR φ (.tuple xs) (.tuple xs')

def Le (φ ψ : Fi) : Prop := ∀ b r, φ b = some r → ψ b = some r
theorem Le.refl (φ : Fi) : Le φ φ := fun _ _ h => h
theorem Le.trans {φ ψ χ : Fi} (h : Le φ ψ) (k : Le ψ χ) : Le φ χ := fun b r e => k b r (h b r e)

theorem FR.mono {φ ψ : Fi} (h : Le φ ψ) {f f' : Fn} (r : FR φ f f') : FR ψ f f' := by
  cases r with
  | func f => exact .func f
  | yield e => exact .yield (h _ _ e)

theorem VR.mono {φ ψ : Fi} (h : Le φ ψ) {v v' : Value} (r : VR φ v v') : VR ψ v v' := by
  induction r with
  | junk v => exact .junk v
  | bool b => exact .bool b
  | int k n => exact .int k n
  | string s => exact .string s
  | ptrNil => exact .ptrNil
  | ptr e => exact .ptr (h _ _ e)
  | sliceNil n c hc => exact .sliceNil n c hc
  | slice e hc => exact .slice (h _ _ e) hc
  | sliceO e hc hn ht => exact .sliceO (h _ _ e) hc hn ht
  | sliceE e => exact .sliceE (h _ _ e)
  | mapNil => exact .mapNil
  | map e => exact .map (h _ _ e)
  | func hf h1 h2 _ _ i3 i4 => exact .func (hf.mono h) h1 h2 i3 i4
  | nilFunc => exact .nilFunc
  | nilIface => exact .nilIface
  | iface _ i => exact .iface i
  | agg h1 h2 _ i3 => exact .agg h1 h2 i3
  | tuple h1 _ i3 => exact .tuple h1 i3

theorem VR.one {φ : Fi} {v v' : Value} (r : VR φ v v') (h : isMulti v = false) : v'.oneCell' = true := by
  cases r <;> first | rfl | (simp [isMulti] at h; done)

/-- Rows of cells. -/
def LR (φ : Fi) : List Value → List Value → Prop
  | [], [] => True
  | x :: xs, y :: ys => VR φ x y ∧ isMulti x = false ∧ LR φ xs ys
  | _, _ => False
/-- Rows of any values. -/
def AR (φ : Fi) : List Value → List Value → Prop
  | [], [] => True
  | x :: xs, y :: ys => VR φ x y ∧ AR φ xs ys
  | _, _ => False

section
variable {φ ψ : Fi}
theorem LR.mono (h : Le φ ψ) : ∀ {xs ys : List Value}, LR φ xs ys → LR ψ xs ys
  | [], [], _ => trivial
  | _ :: _, _ :: _, r => ⟨r.1.mono h, r.2.1, LR.mono h r.2.2⟩
theorem AR.mono (h : Le φ ψ) : ∀ {xs ys : List Value}, AR φ xs ys → AR ψ xs ys
  | [], [], _ => trivial
  | _ :: _, _ :: _, r => ⟨r.1.mono h, AR.mono h r.2⟩
theorem LR.length : ∀ {xs ys : List Value}, LR φ xs ys → xs.length = ys.length
  | [], [], _ => rfl
  | _ :: _, _ :: _, r => by simp [LR.length r.2.2]
theorem AR.length : ∀ {xs ys : List Value}, AR φ xs ys → xs.length = ys.length
  | [], [], _ => rfl
  | _ :: _, _ :: _, r => by simp [AR.length r.2]
theorem LR.toAR : ∀ {xs ys : List Value}, LR φ xs ys → AR φ xs ys
  | [], [], _ => trivial
  | _ :: _, _ :: _, r => ⟨r.1, LR.toAR r.2.2⟩
theorem LR.append : ∀ {xs ys us vs : List Value}, LR φ xs ys → LR φ us vs → LR φ (xs ++ us) (ys ++ vs)
  | [], [], _, _, _, k => k
  | _ :: _, _ :: _, _, _, r, k => ⟨r.1, r.2.1, LR.append r.2.2 k⟩
theorem AR.append : ∀ {xs ys us vs : List Value}, AR φ xs ys → AR φ us vs → AR φ (xs ++ us) (ys ++ vs)
  | [], [], _, _, _, k => k
  | _ :: _, _ :: _, _, _, r, k => ⟨r.1, AR.append r.2 k⟩
theorem LR.take : ∀ (n : Nat) {xs ys : List Value}, LR φ xs ys → LR φ (xs.take n) (ys.take n)
  | 0, _, _, _ => by simp [LR]
  | _ + 1, [], [], _ => by simp [LR]
  | n + 1, _ :: _, _ :: _, r => ⟨r.1, r.2.1, LR.take n r.2.2⟩
theorem LR.drop : ∀ (n : Nat) {xs ys : List Value}, LR φ xs ys → LR φ (xs.drop n) (ys.drop n)
  | 0, _, _, r => by simpa using r
  | _ + 1, [], [], _ => by simp [LR]
  | n + 1, _ :: _, _ :: _, r => LR.drop n r.2.2
theorem LR.at : ∀ {xs ys : List Value}, LR φ xs ys → ∀ (i : Nat) (v : Value), xs[i]? = some v → isMulti v = false ∧ ∃ v', ys[i]? = some v' ∧ VR φ v v'
  | [], [], _, i, v, e => by simp at e
  | _ :: _, y :: _, r, 0, v, e => by simp at e; subst e; exact ⟨r.2.1, y, rfl, r.1⟩
  | _ :: _, _ :: _, r, i + 1, v, e => by simp at e; simpa using LR.at r.2.2 i v e
theorem AR.at : ∀ {xs ys : List Value}, AR φ xs ys → ∀ (i : Nat) (v : Value), xs[i]? = some v → ∃ v', ys[i]? = some v' ∧ VR φ v v'
  | [], [], _, i, v, e => by simp at e
  | _ :: _, y :: _, r, 0, v, e => by simp at e; subst e; exact ⟨y, rfl, r.1⟩
  | _ :: _, _ :: _, r, i + 1, v, e => by simp at e; simpa using AR.at r.2 i v e
theorem LR.one : ∀ {xs ys : List Value}, LR φ xs ys → ∀ v ∈ ys, v.oneCell' = true
  | [], [], _, v, h => by simp at h
  | _ :: _, _ :: _, r, v, h => by
    rcases List.mem_cons.1 h with h | h
    · subst h; exact r.1.one r.2.1
    · exact LR.one r.2.2 v h
theorem LR.of_at : ∀ {xs ys : List Value}, xs.length = ys.length → (∀ (i : Nat) (v : Value), xs[i]? = some v → isMulti v = false) → (∀ (i : Nat) (v v' : Value), xs[i]? = some v → ys[i]? = some v' → VR φ v v') → LR φ xs ys
  | [], [], _, _, _ => trivial
  | [], _ :: _, h, _, _ => by simp at h
  | _ :: _, [], h, _, _ => by simp at h
  | x :: xs, y :: ys, h, h2, h3 => ⟨h3 0 x y rfl rfl, h2 0 x rfl, LR.of_at (by simpa using h) (fun i v e => h2 (i + 1) v (by simpa using e)) (fun i v v' e e' => h3 (i + 1) v v' (by simpa using e) (by simpa using e'))⟩
theorem AR.of_at : ∀ {xs ys : List Value}, xs.length = ys.length → (∀ (i : Nat) (v v' : Value), xs[i]? = some v → ys[i]? = some v' → VR φ v v') → AR φ xs ys
  | [], [], _, _ => trivial
  | [], _ :: _, h, _ => by simp at h
  | _ :: _, [], h, _ => by simp at h
  | x :: xs, y :: ys, h, h3 => ⟨h3 0 x y rfl rfl, AR.of_at (by simpa using h) (fun i v v' e e' => h3 (i + 1) v v' (by simpa using e) (by simpa using e'))⟩
theorem AR.two : ∀ {xs ys : List Value}, AR φ xs ys → ∀ (i : Nat) (v v' : Value), xs[i]? = some v → ys[i]? = some v' → VR φ v v' := by
  intro xs ys h i v v' e e'
  obtain ⟨u, hu, hr⟩ := h.at i v e
  rw [e'] at hu
  cases hu
  exact hr
theorem AR.func {fn fn' : Fn} {xs xs' ys ys' : Array Value} (hf : FR φ fn fn') (h : AR φ xs.toList xs'.toList) (k : AR φ ys.toList ys'.toList) : VR φ (.func fn xs ys) (.func fn' xs' ys') :=
  .func hf (by simpa using h.length) (by simpa using k.length) (fun i v v' e e' => h.two i v v' (by simpa using e) (by simpa using e')) (fun i v v' e e' => k.two i v v' (by simpa using e) (by simpa using e'))
theorem AR.tuple {xs xs' : Array Value} (h : AR φ xs.toList xs'.toList) : VR φ (.tuple xs) (.tuple xs') :=
  .tuple (by simpa using h.length) (fun i v v' e e' => h.two i v v' (by simpa using e) (by simpa using e'))
theorem LR.agg {xs xs' : Array Value} (h : LR φ xs.toList xs'.toList) : VR φ (.agg xs) (.agg xs') :=
  .agg (by simpa using h.length) (fun i v e => (h.at i v (by simpa using e)).1) (fun i v v' e e' => h.toAR.two i v v' (by simpa using e) (by simpa using e'))
theorem VR.toLR {xs : Array Value} {v' : Value} (h : VR φ (.agg xs) v') : ∃ xs', v' = .agg xs' ∧ LR φ xs.toList xs'.toList := by
  cases h with
  | agg h1 h2 h3 => exact ⟨_, rfl, LR.of_at (by simpa using h1) (fun i v e => h2 i v (by simpa using e)) (fun i v w e e' => h3 i v w (by simpa using e) (by simpa using e'))⟩
theorem VR.tupleAR {xs : Array Value} {v' : Value} (h : VR φ (.tuple xs) v') : xs = #[] ∨ ∃ xs', v' = .tuple xs' ∧ AR φ xs.toList xs'.toList := by
  cases h with
  | junk => exact .inl rfl
  | tuple h1 h3 => exact .inr ⟨_, rfl, AR.of_at (by simpa using h1) (fun i v w e e' => h3 i v w (by simpa using e) (by simpa using e'))⟩
theorem VR.funcAR {fn : Fn} {xs ys : Array Value} {v' : Value} (h : VR φ (.func fn xs ys) v') : ∃ fn' xs' ys', v' = .func fn' xs' ys' ∧ FR φ fn fn' ∧ AR φ xs.toList xs'.toList ∧ AR φ ys.toList ys'.toList := by
  cases h with
  | func hf h1 h2 h3 h4 =>
    exact ⟨_, _, _, rfl, hf, AR.of_at (by simpa using h1) (fun i v w e e' => h3 i v w (by simpa using e) (by simpa using e')), AR.of_at (by simpa using h2) (fun i v w e e' => h4 i v w (by simpa using e) (by simpa using e'))⟩
/-- The cells of a value that is no tuple. -/
theorem VR.cells {v v' : Value} (h : VR φ v v') (ht : ∀ xs, v ≠ .tuple xs) : LR φ v.cells.toList v'.cells.toList := by
  by_cases ha : ∃ xs, v = .agg xs
  · obtain ⟨xs, rfl⟩ := ha
    obtain ⟨xs', rfl, hl⟩ := h.toLR
    exact hl
  · have hm : isMulti v = false := by
      cases v <;> first | rfl | (exact absurd rfl (ht _)) | (exact absurd ⟨_, rfl⟩ ha)
    have e1 : v.cells = #[v] := by cases v <;> first | rfl | (simp [isMulti] at hm; done)
    have hm' := h.one hm
    have e2 : v'.cells = #[v'] := by cases v' <;> first | rfl | (simp [Value.oneCell'] at hm'; done)
    rw [e1, e2]
    exact ⟨h, hm, trivial⟩
end

/-- No cell of the first n is frozen. -/
def NF (m : Nat × Nat) (n : Nat) : Prop := m.1 = m.2 ∨ n ≤ m.1
theorem NF.at {m : Nat × Nat} {n : Nat} (k : NF m n) (o : Nat) (ho : o < n) : (decide (m.1 ≤ o) && decide (o < m.2)) = false := by
  rcases k with k | k
  · simp; omega
  · simp; omega

def ER (φ : Fi) : List MapEntry → List MapEntry → Prop
  | [], [] => True
  | x :: xs, y :: ys => VR φ x.key y.key ∧ VR φ x.val y.val ∧ x.born = y.born ∧ ER φ xs ys
  | _, _ => False

section
variable (P : Program)
def EnvR (φ : Fi) (e : Env) (a : Array Value) : Prop := ∀ i, VR φ ((e.get i).getD undef) (a.getD i undef)

/-- Do all operations write to one of the first n slots? -/
def codeDst (n : Nat) : Code → Bool
  | .skip | .exit _ | .label _ | .goto _ | .ret | .refuse _ => true
  | .region _ ops _ => ops.toList.all fun o => match o.dst with | some d => Nat.blt d n | none => true
  | .seq a b => codeDst n a && codeDst n b
  | .cond _ a b => codeDst n a && codeDst n b
  | .block _ c => codeDst n c
  | .loop c => codeDst n c
  | .scope c => codeDst n c
  | .rangeFunc _ ps a b => ps.toList.all (fun d => Nat.blt d n) && codeDst n a && codeDst n b

def OR (φ : Fi) (r : Rec) : AObj → Obj → Prop
  | .cells cs e ro, .cells C e' m => e' = e ∧ r.esz = P.cellsOf e ∧ C.size = r.total ∧ (∃ pre mid post, C.toList = pre ++ mid ++ post ∧ pre.length = r.shift ∧ LR φ cs mid) ∧ (ro = false → NF m r.total)
  | .map es c, .map es' c' => c' = c ∧ ER φ es es'.toList
  | .siter s p, .stringIter s' p' => s' = s ∧ p' = p ∧ r.shift = 0
  | .loop L, .loop L' => EnvR φ L.env L'.tmps ∧ L'.params.toList = L.params ∧ L'.assign = L.assign ∧ L'.body = L.body ∧ L'.pending = L.pending ∧
      L'.state = (match L.state with | .ready => .ready | .busy => .busy | .done => .done | .over => .exhausted) ∧ codeDst L'.tmps.size L.assign = true ∧ codeDst L'.tmps.size L.body = true ∧ (∀ d ∈ L.params, d < L'.tmps.size)
  | _, _ => False

def AObj.ro : AObj → Bool
  | .cells _ _ ro => ro
  | _ => false

structure R (φ : Fi) (h : AH) (w : World) : Prop where
  obj : ∀ b o r, h.get b = some o → φ b = some r → ∃ o', w.heap[r.blk]? = some o' ∧ OR P φ r o o'
  inj : ∀ b1 b2 o1 o2 r1 r2, h.get b1 = some o1 → h.get b2 = some o2 → φ b1 = some r1 → φ b2 = some r2 → r1.blk = r2.blk → b1 = b2
  lt : ∀ b o, h.get b = some o → b < h.next

/-- The blocks of the world that may be written. -/
def Own (φ : Fi) (h : AH) (c : Nat) : Prop := ∃ b o r, h.get b = some o ∧ φ b = some r ∧ r.blk = c ∧ o.ro = false
def Free (φ : Fi) (n m : Nat) : Prop := ∀ b, n ≤ b → b < m → φ b = none

/-- One step, or many: from (φ, h, w) to (φ', h', w'); new names lie in [h.next, h'.next). -/
structure Tn (φ : Fi) (h : AH) (w : World) (φ' : Fi) (h' : AH) (w' : World) : Prop where
  le : Le φ φ'
  new : ∀ b, φ' b ≠ none → φ b ≠ none ∨ (h.next ≤ b ∧ b < h'.next)
  nle : h.next ≤ h'.next
  rel : R P φ' h' w'
  size : w.heap.size ≤ w'.heap.size
  os : w'.os = w.os
  tape : w'.tape = w.tape
  output : w'.output = w.output
  keep : ∀ c, c < w.heap.size → ¬ Own φ h c → w'.heap[c]? = w.heap[c]?
  old : ∀ b o r, h'.get b = some o → φ' b = some r → r.blk < w.heap.size → ∃ b0 o0 r0, h.get b0 = some o0 ∧ φ b0 = some r0 ∧ r0.blk = r.blk ∧ (o.ro = false → o0.ro = false)
end

section
variable {P : Program} {φ φ' φ2 : Fi} {h h' h2 : AH} {w w' w2 : World}
theorem Tn.own (t : Tn P φ h w φ' h' w') (c : Nat) (hc : c < w.heap.size) (k : Own φ' h' c) : Own φ h c := by
  obtain ⟨b, o, r, h1, h2, h3, h4⟩ := k
  obtain ⟨b0, o0, r0, g1, g2, g3, g4⟩ := t.old b o r h1 h2 (by rw [h3]; exact hc)
  exact ⟨b0, o0, r0, g1, g2, by rw [g3, h3], g4 h4⟩
theorem Tn.refl (r : R P φ h w) : Tn P φ h w φ h w := ⟨Le.refl _, fun _ e => .inl e, Nat.le_refl _, r, Nat.le_refl _, rfl, rfl, rfl, fun _ _ _ => rfl, fun b o r h1 h2 _ => ⟨b, o, r, h1, h2, rfl, id⟩⟩
theorem Tn.trans (a : Tn P φ h w φ' h' w') (b : Tn P φ' h' w' φ2 h2 w2) : Tn P φ h w φ2 h2 w2 where
  le := a.le.trans b.le
  new := fun c e => by
    rcases b.new c e with k | k
    · rcases a.new c k with k | k
      · exact .inl k
      · exact .inr ⟨k.1, Nat.lt_of_lt_of_le k.2 b.nle⟩
    · exact .inr ⟨Nat.le_trans a.nle k.1, k.2⟩
  nle := Nat.le_trans a.nle b.nle
  rel := b.rel
  size := Nat.le_trans a.size b.size
  os := b.os.trans a.os
  tape := b.tape.trans a.tape
  output := b.output.trans a.output
  keep := fun c hc ho => by
    rw [b.keep c (Nat.lt_of_lt_of_le hc a.size) (fun k => ho (a.own c hc k)), a.keep c hc ho]
  old := fun c o r h1 h2 hc => by
    obtain ⟨c1, o1, r1, g1, g2, g3, g4⟩ := b.old c o r h1 h2 (Nat.lt_of_lt_of_le hc a.size)
    obtain ⟨c0, o0, r0, k1, k2, k3, k4⟩ := a.old c1 o1 r1 g1 g2 (by rw [g3]; exact hc)
    exact ⟨c0, o0, r0, k1, k2, k3.trans g3, fun q => k4 (g4 q)⟩
theorem Free.tn {N : Nat} (f : Free φ h.next N) (t : Tn P φ h w φ' h' w') : Free φ' h'.next N := by
  intro b h1 h2
  cases e : φ' b with
  | none => rfl
  | some r =>
    rcases t.new b (by simp [e]) with k | k
    · exact absurd (f b (Nat.le_trans t.nle h1) h2) k
    · omega
theorem Free.mono {n m m' : Nat} (f : Free φ n m) (hm : m' ≤ m) : Free φ n m' := fun b h1 h2 => f b h1 (Nat.lt_of_lt_of_le h2 hm)

/-! ### Ways to step -/
theorem ER.mono {ψ : Fi} (h : Le φ ψ) : ∀ {xs ys : List MapEntry}, ER φ xs ys → ER ψ xs ys
  | [], [], _ => trivial
  | _ :: _, _ :: _, r => ⟨r.1.mono h, r.2.1.mono h, r.2.2.1, ER.mono h r.2.2.2⟩
theorem EnvR.mono {ψ : Fi} (h : Le φ ψ) {e : Env} {a : Array Value} (r : EnvR φ e a) : EnvR ψ e a := fun i => (r i).mono h
theorem OR.mono {ψ : Fi} (hl : Le φ ψ) {r : Rec} {o : AObj} {o' : Obj} (k : OR P φ r o o') : OR P ψ r o o' := by
  cases o <;> cases o' <;> simp only [OR] at k ⊢
  case cells.cells =>
    obtain ⟨h1, h2, h3, ⟨pre, mid, post, h4, h5, h6⟩, h7⟩ := k
    exact ⟨h1, h2, h3, ⟨pre, mid, post, h4, h5, h6.mono hl⟩, h7⟩
  case map.map => exact ⟨k.1, k.2.mono hl⟩
  case loop.loop => exact ⟨k.1.mono hl, k.2⟩
  case siter.stringIter => exact k

/-- A block is struck. -/
theorem Tn.del (r : R P φ h w) (b : Nat) : Tn P φ h w φ (h.del b) w where
  le := Le.refl _
  new := fun _ e => .inl e
  nle := Nat.le_refl _
  rel := ⟨fun c o q hc hq => by
      rw [AH.get_del] at hc
      split at hc
      · simp at hc
      · exact r.obj c o q hc hq,
    fun c1 c2 o1 o2 q1 q2 h1 h2 k1 k2 e => by
      rw [AH.get_del] at h1 h2
      split at h1 <;> split at h2 <;> first | (simp at h1; done) | (simp at h2; done) | exact r.inj c1 c2 o1 o2 q1 q2 h1 h2 k1 k2 e,
    fun c o hc => by
      rw [AH.get_del] at hc
      split at hc
      · simp at hc
      · exact r.lt c o hc⟩
  size := Nat.le_refl _
  os := rfl
  tape := rfl
  output := rfl
  keep := fun _ _ _ => rfl
  old := fun b' o q h1 h2 _ => by
    rw [AH.get_del] at h1
    split at h1
    · simp at h1
    · exact ⟨b', o, q, h1, h2, rfl, id⟩

theorem Tn.kill (r : R P φ h w) (v : Value) : Tn P φ h w φ (killV h v) w := by
  unfold killV
  split <;> first | exact Tn.del r _ | exact Tn.refl r

theorem Tn.killAll (e : Env) : ∀ (ts : List Tmp) {h : AH} (_ : R P φ h w), Tn P φ h w φ (killAll e h ts) w
  | [], _, r => Tn.refl r
  | t :: ts, h, r => (Tn.kill r (ev e (.tmp t))).trans (Tn.killAll e ts (Tn.kill r _).rel)

/-- A draw: nothing of the blocks turns. -/
theorem R.drew (r : R P φ h w) (n : Nat) : R P φ h { w with drawn := w.drawn + n } := ⟨r.obj, r.inj, r.lt⟩

/-- A new block. -/
theorem Tn.alloc (r : R P φ h w) (o : AObj) (O : Obj) (rc : Rec) (hf : φ h.next = none) (hb : rc.blk = w.heap.size)
    (ho : ∀ ψ, Le φ ψ → ψ h.next = some rc → OR P ψ rc o O) (n : Nat) :
    Tn P φ h w (fun b => if b = h.next then some rc else φ b) (h.alloc o) { w with heap := w.heap.push O, drawn := w.drawn + n } := by
  have hle : Le φ (fun b => if b = h.next then some rc else φ b) := by
    intro b q e
    by_cases hb : b = h.next
    · subst hb; rw [hf] at e; simp at e
    · simp [hb, e]
  have hold : ∀ b o r', h.get b = some o → φ b = some r' → r'.blk < w.heap.size := by
    intro b o r' h1 h2
    obtain ⟨O', hO, _⟩ := r.obj b o r' h1 h2
    exact (Array.getElem?_eq_some_iff.1 hO).1
  refine ⟨hle, ?_, by simp, ⟨?_, ?_, ?_⟩, by simp, rfl, rfl, rfl, ?_, ?_⟩
  · intro b e
    by_cases hb : b = h.next
    · exact .inr ⟨by omega, by simp [hb]⟩
    · simp [hb] at e; exact .inl (by simpa using e)
  · intro b o' r' h1 h2
    rw [AH.get_alloc] at h1
    by_cases hbn : b = h.next
    · simp only [hbn, if_true] at h1 h2
      cases h1; cases h2
      exact ⟨O, by simp [hb], ho _ hle (by simp)⟩
    · simp only [hbn, if_false] at h1 h2
      obtain ⟨O', hO, hr⟩ := r.obj b o' r' h1 h2
      have := hold b o' r' h1 h2
      exact ⟨O', by simp only [Array.getElem?_push]; rw [if_neg (by omega)]; exact hO, hr.mono hle⟩
  · intro b1 b2 o1 o2 r1 r2 h1 h2 k1 k2 e
    rw [AH.get_alloc] at h1 h2
    by_cases e1 : b1 = h.next <;> by_cases e2 : b2 = h.next
    · omega
    · simp only [e1, e2, if_true, if_false] at h1 h2 k1 k2
      cases k1
      have := hold b2 o2 r2 h2 k2
      omega
    · simp only [e1, e2, if_true, if_false] at h1 h2 k1 k2
      cases k2
      have := hold b1 o1 r1 h1 k1
      omega
    · simp only [e1, e2, if_false] at h1 h2 k1 k2
      exact r.inj b1 b2 o1 o2 r1 r2 h1 h2 k1 k2 e
  · intro b o' h1
    rw [AH.get_alloc] at h1
    split at h1
    · subst_vars; simp
    · have := r.lt b o' h1; simp; omega
  · intro c hc _
    simp only [Array.getElem?_push]
    rw [if_neg (by omega)]
  · intro b o' r' h1 h2 hc
    rw [AH.get_alloc] at h1
    by_cases hbn : b = h.next
    · simp only [hbn, if_true] at h1 h2
      cases h2
      omega
    · simp only [hbn, if_false] at h1 h2
      exact ⟨b, o', r', h1, h2, rfl, id⟩

/-- A block that may be written is another one. -/
theorem Tn.put (r : R P φ h w) {b : Nat} {o o2 : AObj} {rc : Rec} (hb : h.get b = some o) (hφ : φ b = some rc) (hro : o.ro = false) {O2 : Obj} (ho : OR P φ rc o2 O2) (n : Nat) :
    Tn P φ h w φ (h.set b o2) { w with heap := w.heap.setIfInBounds rc.blk O2, drawn := w.drawn + n } := by
  obtain ⟨O, hO, _⟩ := r.obj b o rc hb hφ
  have hlt : rc.blk < w.heap.size := (Array.getElem?_eq_some_iff.1 hO).1
  refine ⟨Le.refl _, fun _ e => .inl e, Nat.le_refl _, ⟨?_, ?_, ?_⟩, by simp, rfl, rfl, rfl, ?_, ?_⟩
  · intro c o' r' h1 h2
    rw [AH.get_set] at h1
    by_cases hc : c = b
    · subst hc
      simp only [if_true] at h1
      cases h1
      rw [hφ] at h2
      cases h2
      exact ⟨O2, by simp [hlt], ho⟩
    · simp only [hc, if_false] at h1
      obtain ⟨O', hO', hr⟩ := r.obj c o' r' h1 h2
      refine ⟨O', ?_, hr⟩
      rw [Array.getElem?_setIfInBounds_ne]
      · exact hO'
      · intro e
        exact hc (r.inj c b o' o r' rc h1 hb h2 hφ e.symm)
  · intro b1 b2 o1 o2' r1 r2 h1 h2 k1 k2 e
    rw [AH.get_set] at h1 h2
    have g : ∀ c o', (if c = b then some o2 else h.get c) = some o' → ∃ o, h.get c = some o := by
      intro c o' k
      by_cases hc : c = b
      · exact ⟨o, by rw [hc]; exact hb⟩
      · rw [if_neg hc] at k; exact ⟨_, k⟩
    have g1 := g _ _ h1
    have g2 := g _ _ h2
    obtain ⟨_, g1⟩ := g1
    obtain ⟨_, g2⟩ := g2
    exact r.inj b1 b2 _ _ r1 r2 g1 g2 k1 k2 e
  · intro c o' h1
    rw [AH.get_set] at h1
    split at h1
    · subst_vars; exact r.lt _ _ hb
    · exact r.lt c o' h1
  · intro c hc hno
    have : rc.blk ≠ c := fun e => hno ⟨b, o, rc, hb, hφ, e, hro⟩
    simp only [Array.getElem?_setIfInBounds_ne this]
  · intro c' o' r' h1 h2 _
    rw [AH.get_set] at h1
    by_cases hcb : c' = b
    · subst hcb
      rw [hφ] at h2
      cases h2
      exact ⟨c', o, rc, hb, hφ, rfl, fun _ => hro⟩
    · simp only [hcb, if_false] at h1
      exact ⟨c', o', r', h1, h2, rfl, id⟩
end
end Go.Am
