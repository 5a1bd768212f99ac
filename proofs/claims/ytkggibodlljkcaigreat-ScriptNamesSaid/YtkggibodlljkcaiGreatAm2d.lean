/-
  Each operation of the abstract machine is met by the model's: append, copy, what is made.
-/
import Derived.Test.YtkggibodlljkcaiGreatAm2c
set_option linter.unusedVariables false
set_option linter.unusedSimpArgs false
namespace Go.Am
variable {P : Program} {φ φ' : Fi} {h h' : AH} {w w' : World}

/-- An operation's end: the value and the world, related. -/
def Ends (P : Program) (φ : Fi) (h : AH) (w : World) (S : Sem Value) (v : Value) (h' : AH) : Prop :=
  ∃ φ' v' w', S.run P w = .ok v' w' ∧ VR φ' v v' ∧ Tn P φ h w φ' h' w'

/-- A new row of cells. -/
theorem newRow_sound (r : R P φ h w) {e : TypeId} {cs ds : List Value} {C : Array Value} (hf : φ h.next = none) (hl : LR φ cs ds) (hC : ∃ post, C.toList = ds ++ post) (n : Nat) :
    ∃ φ', φ' h.next = some ⟨w.heap.size, 0, C.size, P.cellsOf e⟩ ∧ Tn P φ h w φ' (h.alloc (.cells cs e false)) { w with heap := w.heap.push (.cells C e), drawn := w.drawn + n } := by
  refine ⟨fun b => if b = h.next then some ⟨w.heap.size, 0, C.size, P.cellsOf e⟩ else φ b, by simp, ?_⟩
  refine Tn.alloc r _ _ _ hf rfl ?_ n
  intro ψ hle hψ
  obtain ⟨post, hp⟩ := hC
  refine ⟨rfl, rfl, rfl, ⟨[], ds, post, by simp [hp], rfl, hl.mono hle⟩, fun _ => .inl rfl⟩

theorem box_sound (r : R P φ h w) {t : TypeId} {x x' : Value} (hf : φ h.next = none) (hx : VR φ x x') (ht : ∀ xs, x ≠ .tuple xs) :
    Ends P φ h w (Instr.box t x') (ptr h.next 0) (h.alloc (.cells x.cells.toList t false)) := by
  obtain ⟨φ', h1, h2⟩ := newRow_sound (P := P) (e := t) (C := x'.cells) r hf (hx.cells ht) ⟨[], by simp⟩ 0
  refine ⟨φ', _, _, ?_, .ptr h1, h2⟩
  simp [Instr.box, newVar, newRow]

/-- What holds of every type's zero value. -/
def zeroOk (z : Value) : Bool := match z with | .tuple _ => true | z => z.cells.toList.all fun c => plainV c && !isMulti c
theorem plain_LR : ∀ {l : List Value}, (l.all fun c => plainV c && !isMulti c) = true → LR φ l l
  | [], _ => trivial
  | c :: l, hl => by
    simp only [List.all_cons, Bool.and_eq_true, Bool.not_eq_true'] at hl
    exact ⟨VR.plain hl.1.1, hl.1.2, plain_LR (by simpa using hl.2)⟩

/-- What the machine asks of a program, once. -/
structure Good (P : Program) : Prop where
  zero : ∀ t i z, t < P.types.size → P.info? t = some i → i.zero = some z → zeroOk z = true
  dst : ∀ (f : Nat) (fn : Func) (c : Code), P.funcs[f]? = some fn → fn.body = some c → codeDst fn.ntmps c = true
  name : ∀ (f : Nat) (fn : Func), P.funcs[f]? = some fn → (fn.name == "runtime.NumGoroutine") = false
  depth : 50 ≤ P.depth

theorem zeroCells_lt {t : TypeId} {zs : List Value} (hz : zeroCellsOf P t = some zs) : t < P.types.size := by
  unfold zeroCellsOf at hz
  cases hb : Nat.blt t P.types.size with
  | true => exact Nat.blt_eq.mp hb
  | false => rw [hb] at hz; simp at hz
theorem zeroCells_info {t : TypeId} {zs : List Value} (hz : zeroCellsOf P t = some zs) : ∃ i z, P.info? t = some i ∧ i.zero = some z ∧ z.cells.toList = zs ∧ (∀ xs, z ≠ .tuple xs) := by
  have hlt := zeroCells_lt hz
  unfold zeroCellsOf at hz
  rw [Nat.blt_eq.mpr hlt, cond_true] at hz
  split at hz
  · rename_i i hi
    split at hz
    · simp at hz
    · rename_i z hne hz'
      simp only [Option.some.injEq] at hz
      exact ⟨i, _, hi, hz', hz, fun xs e => hne xs e⟩
    · simp at hz
  · simp at hz
theorem zeroCells_LR (G : Good P) {t : TypeId} {zs : List Value} (hz : zeroCellsOf P t = some zs) : LR φ zs zs := by
  obtain ⟨i, z, hi, hz', rfl, hne⟩ := zeroCells_info hz
  have := G.zero t i z (zeroCells_lt hz) hi hz'
  apply plain_LR
  unfold zeroOk at this
  split at this
  · exact absurd rfl (hne _)
  · exact this

theorem alloc_sound (G : Good P) (r : R P φ h w) {t : TypeId} {zs : List Value} (hz : zeroCellsOf P t = some zs) (hf : φ h.next = none) :
    Ends P φ h w (Instr.alloc t true (.tuple #[])) (ptr h.next 0) (h.alloc (.cells zs t false)) := by
  obtain ⟨i, z, hi, hz', hzs, hne⟩ := zeroCells_info hz
  obtain ⟨φ', h1, h2⟩ := newRow_sound (P := P) (e := t) (C := z.cells) r hf (zeroCells_LR (φ := φ) G hz) ⟨[], by simp [hzs]⟩ 0
  refine ⟨φ', _, _, ?_, .ptr h1, h2⟩
  simp [Instr.alloc, zero_run hi hz', newVar, newRow]

/-! ## Values made of parts -/
theorem LR.set : ∀ {xs ys : List Value} (i : Nat) {v v' : Value}, LR φ xs ys → VR φ v v' → isMulti v = false → LR φ (xs.set i v) (ys.set i v')
  | [], [], _, _, _, _, _, _ => trivial
  | _ :: _, _ :: _, 0, _, _, r, hv, hm => ⟨hv, hm, r.2.2⟩
  | _ :: _, _ :: _, i + 1, _, _, r, hv, hm => ⟨r.1, r.2.1, LR.set i r.2.2 hv hm⟩
theorem LR.setAll (off : Nat) : ∀ {vs vs' : List Value} (k : Nat) {cs cs' : Array Value}, LR φ vs vs' → LR φ cs.toList cs'.toList →
    LR φ ((vs.zipIdx k).foldl (fun cs p => cs.setIfInBounds (off + p.2) p.1) cs).toList ((vs'.zipIdx k).foldl (fun cs p => cs.setIfInBounds (off + p.2) p.1) cs').toList
  | [], [], _, _, _, _, h => by simpa using h
  | _ :: _, _ :: _, k, cs, cs', r, h => by
    simp only [List.zipIdx_cons, List.foldl_cons]
    exact LR.setAll off (k + 1) r.2.2 (by simpa using h.set (off + k) r.1 r.2.1)
def PR (φ : Fi) : List (Nat × Value) → List (Nat × Value) → Prop
  | [], [] => True
  | x :: xs, y :: ys => x.1 = y.1 ∧ VR φ x.2 y.2 ∧ PR φ xs ys
  | _, _ => False
theorem fill_sound (place place' : Nat → Option (Nat × Nat)) (hp : ∀ i, place i = place' i) : ∀ {ps ps' : List (Nat × Value)} {cs cs' out : Array Value}, PR φ ps ps' → (ps.any fun p => isTup p.2) = false → LR φ cs.toList cs'.toList →
    Instr.fill place cs ps = some out → ∃ out', Instr.fill place' cs' ps' = some out' ∧ LR φ out.toList out'.toList
  | [], [], cs, cs', out, _, _, hl, hf => by
    simp only [Instr.fill, Option.some.injEq] at hf
    subst hf
    exact ⟨cs', rfl, hl⟩
  | (i, v) :: ps, (j, v') :: ps', cs, cs', out, r, hn, hl, hf => by
    obtain ⟨rfl, hv, hr⟩ := r
    simp only [List.any_cons, Bool.or_eq_false_iff] at hn
    simp only [Instr.fill, ← hp] at hf ⊢
    cases hpl : place i with
    | none => simp [hpl] at hf
    | some q =>
      obtain ⟨off, size⟩ := q
      simp only [hpl] at hf ⊢
      have hlc := hv.cells (fun xs e => by subst e; simp [isTup] at hn)
      have e1 := hlc.length
      have e2 := hl.length
      simp only [Array.length_toList] at e1 e2
      by_cases hc : (decide (v.cells.size ≠ size) || decide (off + v.cells.size > cs.size)) = true
      · simp only [hc, if_true] at hf
        simp at hf
      · have hc' : ¬ (decide (v'.cells.size ≠ size) || decide (off + v'.cells.size > cs'.size)) = true := by rw [← e1, ← e2]; exact hc
        simp only [hc, if_false] at hf
        simp only [hc', if_false]
        refine fill_sound place place' hp hr hn.2 ?_ hf
        have := LR.setAll (φ := φ) off 0 hlc hl
        rw [← Array.foldl_toList, ← Array.foldl_toList]
        simpa [Array.toList_zipIdx] using this

theorem build_sound (G : Good P) {t : TypeId} {ps ps' : Array (Nat × Value)} {u : Value} (hs : aBuild P t ps = some u) (hp : PR φ ps.toList ps'.toList) (w : World) :
    ∃ u', (Instr.build t ps').run P w = .ok u' w ∧ VR φ u u' := by
  unfold aBuild at hs
  split at hs
  · simp at hs
  · rename_i hn
    have hn' : (ps.toList.any fun p => isTup p.2) = false := by simpa using hn
    split at hs
    · rename_i z fs hz hu
      obtain ⟨i, zv, hi, hz', rfl, hne⟩ := zeroCells_info hz
      split at hs
      · rename_i hall
        cases hfill : Instr.fill (fun i => (fs[i]?).map fun f => (f.offset, P.cellsOf f.type)) zv.cells.toList.toArray ps.toList with
        | none => simp [hfill] at hs
        | some out =>
          simp only [hfill, Option.map_some, Option.some.injEq] at hs
          subst hs
          have hmap : ∀ (l : List Field), (∀ f ∈ l, (P.info? f.type).isSome = true) → (List.mapM (fun f : Field => (do pure (f.offset, ← sizeOf f.type) : Sem (Nat × Nat))) l).run P w = .ok (l.map fun f => (f.offset, P.cellsOf f.type)) w := by
            intro l
            induction l with
            | nil => intro _; simp
            | cons f l ih =>
              intro hl
              simp only [List.mapM_cons, Sem.run_bind, sizeOf_run (hl f (by simp)), Result.andThen_ok, Sem.run_pure, ih (fun g hg => hl g (by simp [hg])), List.map_cons]
          have hplaces : (Array.mapM (fun f : Field => (do pure (f.offset, ← sizeOf f.type) : Sem (Nat × Nat))) fs).run P w = .ok (fs.map fun f => (f.offset, P.cellsOf f.type)) w := by
            rw [Array.mapM_eq_mapM_toList, Sem.run_map, hmap fs.toList (fun f hf => List.all_eq_true.1 hall f hf)]
            simp
            apply Array.ext'
            simp
          obtain ⟨out', h1, h2⟩ := fill_sound (φ := φ) (fun i => (fs[i]?).map fun f => (f.offset, P.cellsOf f.type)) ((fs.map fun f => (f.offset, P.cellsOf f.type))[·]?) (fun i => by simp) (cs' := zv.cells) hp hn' (by simpa using zeroCells_LR (φ := φ) G hz) hfill
          refine ⟨.agg out', ?_, LR.agg h2⟩
          simp only [Instr.build, Sem.run_bind, zero_run hi hz', Result.andThen_ok, underlying_run hu, hplaces, h1, Sem.run_pure]
      · simp at hs
    · rename_i z n elem hz hu
      obtain ⟨i, zv, hi, hz', rfl, hne⟩ := zeroCells_info hz
      split at hs
      · rename_i hel
        cases hfill : Instr.fill (fun i => some (i * P.cellsOf elem, P.cellsOf elem)) zv.cells.toList.toArray ps.toList with
        | none => simp [hfill] at hs
        | some out =>
          simp only [hfill, Option.map_some, Option.some.injEq] at hs
          subst hs
          obtain ⟨out', h1, h2⟩ := fill_sound (φ := φ) (fun i => some (i * P.cellsOf elem, P.cellsOf elem)) (fun i => some (i * P.cellsOf elem, P.cellsOf elem)) (fun i => rfl) (cs' := zv.cells) hp hn' (by simpa using zeroCells_LR (φ := φ) G hz) hfill
          refine ⟨.agg out', ?_, LR.agg h2⟩
          simp only [Instr.build, Sem.run_bind, zero_run hi hz', Result.andThen_ok, underlying_run hu, sizeOf_run hel, h1, Sem.run_pure]
      · simp at hs
    · simp at hs
end Go.Am
