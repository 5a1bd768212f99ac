/-
  Each operation of the abstract machine that calls nothing is met by the model's.
-/
import Derived.Test.YtkggibodlljkcaiGreatAm2i
set_option linter.unusedVariables false
set_option linter.unusedSimpArgs false
namespace Go.Am
variable {P : Program} {φ φ' : Fi} {h h' : AH} {w w' : World}

theorem len_sound (r : R P φ h w) {t ty : TypeId} {x x' u : Value} {ats : Array TypeId} (hs : aLen P h t x = some u) (hx : VR φ x x') (hat : ats[0]? = some t) :
    ∃ u', (Builtin.len_ ats ty #[x']).run P w = .ok u' w ∧ VR φ u u' := by
  unfold aLen at hs
  split at hs
  · rename_i s hu
    simp only [Option.some.injEq] at hs
    subst hs
    cases hx
    exact ⟨_, by simp [Builtin.len_, hat, underlying_run hu, goInt], .int _ _⟩
  · rename_i n e hu
    simp only [Option.some.injEq] at hs
    subst hs
    exact ⟨_, by simp [Builtin.len_, hat, underlying_run hu, goInt], .int _ _⟩
  · rename_i arr hu
    split at hs
    · rename_i n e hu2
      simp only [Option.some.injEq] at hs
      subst hs
      exact ⟨_, by simp [Builtin.len_, hat, underlying_run hu, underlying_run hu2, goInt], .int _ _⟩
    · simp at hs
  · rename_i e a n c hu
    simp only [Option.some.injEq] at hs
    subst hs
    cases hx <;> exact ⟨_, by simp [Builtin.len_, hat, underlying_run hu, goInt], .int _ _⟩
  · rename_i k e hu
    simp only [Option.some.injEq] at hs
    subst hs
    cases hx
    exact ⟨_, by simp [Builtin.len_, hat, underlying_run hu, goInt], .int _ _⟩
  · rename_i k e b hu
    split at hs
    · rename_i es c hb
      simp only [Option.some.injEq] at hs
      subst hs
      cases hx with
      | map hφ =>
        obtain ⟨es', ho, he⟩ := r.map hb hφ
        have hg := getObj_run (P := P) ho (by intro _ _ _ q; cases q)
        have hl := he.length
        simp only [Array.length_toList] at hl
        rw [hl]
        exact ⟨_, by simp [Builtin.len_, hat, underlying_run hu, hg, goInt], .int _ _⟩
    · simp at hs
  · simp at hs

theorem cap_sound {t ty : TypeId} {x x' u : Value} {ats : Array TypeId} (hs : aCap P t x = some u) (hx : VR φ x x') (hat : ats[0]? = some t) :
    ∃ u', (Builtin.cap_ ats ty #[x']).run P w = .ok u' w ∧ VR φ u u' := by
  unfold aCap at hs
  split at hs
  · rename_i e a n c hu
    split at hs
    · rename_i hc
      simp only [Option.some.injEq] at hs
      subst hs
      cases hx <;> first | exact absurd hc (Nat.lt_irrefl _) | exact ⟨_, by simp [Builtin.cap_, hat, underlying_run hu, goInt], .int _ _⟩
    · simp at hs
  · simp at hs

theorem minMax_go (mx : Bool) (k : IntKind) : ∀ (a : Int) (l l' : List Value) {u : Value}, aMinMaxGo mx k a l = some u → AR φ l l' → ∀ (w : World),
    (l'.foldlM (if mx then Builtin.max2 else Builtin.min2) (.int k a)).run P w = .ok u w ∧ VR φ u u
  | a, [], [], u, hs, _, w => by
    simp only [aMinMaxGo, Option.some.injEq] at hs
    subst hs
    exact ⟨by simp, .int _ _⟩
  | a, x :: l, x' :: l', u, hs, r, w => by
    unfold aMinMaxGo at hs
    split at hs
    · rename_i q; simp at q
    · rename_i q1 j b rr q2
      simp only [List.cons.injEq] at q2
      obtain ⟨rfl, rfl⟩ := q2
      obtain ⟨h1, h2⟩ := r
      cases h1
      cases mx
      · simp only [Bool.false_eq_true, if_false] at hs ⊢
        have ih := minMax_go false k _ l l' hs h2 w
        simp only [Bool.false_eq_true, if_false] at ih
        exact ⟨by simpa [Builtin.min2] using ih.1, ih.2⟩
      · simp only [if_true] at hs ⊢
        have ih := minMax_go true k _ l l' hs h2 w
        simp only [if_true] at ih
        exact ⟨by simpa [Builtin.max2] using ih.1, ih.2⟩
    · simp at hs
theorem minMax_sound {mx : Bool} {l l' : List Value} {u : Value} (hs : aMinMax mx l = some u) (r : AR φ l l') (ats : Array TypeId) (ty : TypeId) (w : World) :
    ∃ u', (if mx then Builtin.max_ ats ty l'.toArray else Builtin.min_ ats ty l'.toArray).run P w = .ok u' w ∧ VR φ u u' := by
  unfold aMinMax at hs
  split at hs
  · rename_i k a rr
    cases l' with
    | nil => exact r.elim
    | cons x' l' =>
      obtain ⟨h1, h2⟩ := r
      cases h1
      have := minMax_go (P := P) mx k a rr l' hs h2 w
      refine ⟨u, ?_, this.2⟩
      cases mx
      · simpa [Builtin.min_] using this.1
      · simpa [Builtin.max_] using this.1
  · simp at hs

/-- What an operation of the model ends in: a value, or none (as a store). -/
def OpEnds (P : Program) (φ : Fi) (h : AH) (w : World) (S : Sem Next) (v : Value) (h' : AH) : Prop :=
  ∃ φ' v' w', ((S.run P w = .ok (.value v') w') ∨ (S.run P w = .ok .skip w' ∧ v' = undef)) ∧ VR φ' v v' ∧ Tn P φ h w φ' h' w'
theorem Ends.op {S : Sem Value} {v : Value} (e : Ends P φ h w S v h') : OpEnds P φ h w (do pure (.value (← S))) v h' := by
  obtain ⟨φ', v', w', h1, h2, h3⟩ := e
  exact ⟨φ', v', w', .inl (by simp [h1]), h2, h3⟩
theorem OpEnds.same {S : Sem Value} {v v' : Value} (r : R P φ h w) (hr : S.run P w = .ok v' w) (hv : VR φ v v') : OpEnds P φ h w (do pure (.value (← S))) v h := (Ends.same r hr hv).op
theorem OpEnds.unit {S : Sem Unit} (hr : ∃ w', S.run P w = .ok () w' ∧ Tn P φ h w φ h' w') : OpEnds P φ h w (do S; pure .skip) undef h' := by
  obtain ⟨w', h1, h2⟩ := hr
  exact ⟨φ, undef, w', .inr ⟨by simp [h1], rfl⟩, .junk _, h2⟩

theorem AR.map {e : Env} {a : Array Value} (k : EnvR φ e a) : ∀ (l : List Operand), AR φ (l.map (ev e)) (l.map (({ tmps := a, defers := [] } : Act).eval))
  | [] => trivial
  | x :: l => ⟨VR.eval k x, AR.map k l⟩
theorem PR.map {e : Env} {a : Array Value} (k : EnvR φ e a) : ∀ (l : List (Nat × Operand)), PR φ (l.map fun p => (p.1, ev e p.2)) (l.map fun p => (p.1, (({ tmps := a, defers := [] } : Act).eval) p.2))
  | [] => trivial
  | x :: l => ⟨rfl, VR.eval k x.2, PR.map k l⟩

theorem R.siter (r : R P φ h w) {b : Nat} {s : ByteArray} {p : Nat} {rc : Rec} (hb : h.get b = some (.siter s p)) (hφ : φ b = some rc) : w.heap[rc.blk]? = some (.stringIter s p) ∧ rc.shift = 0 := by
  obtain ⟨o', ho, hr⟩ := r.obj b _ rc hb hφ
  cases o' <;> simp only [OR] at hr
  obtain ⟨rfl, rfl, h0⟩ := hr
  exact ⟨ho, h0⟩

theorem arr1 {l : List Value} {x : Value} (h : AR φ [x] l) : ∃ x', l = [x'] ∧ VR φ x x' := by
  cases l with
  | nil => exact h.elim
  | cons y l => cases l with
    | nil => exact ⟨y, rfl, h.1⟩
    | cons _ _ => exact h.2.elim
theorem arr2 {l : List Value} {x y : Value} (h : AR φ [x, y] l) : ∃ x' y', l = [x', y'] ∧ VR φ x x' ∧ VR φ y y' := by
  cases l with
  | nil => exact h.elim
  | cons z l =>
    obtain ⟨y', rfl, h2⟩ := arr1 h.2
    exact ⟨z, y', rfl, h.1, h2⟩
theorem builtin_sound (G : Good P) (r : R P φ h w) {b : Builtin} {ats : Array TypeId} {args args' : List Value} {ty : TypeId} {consts : Array Bool} {v : Value} {h' : AH} (hs : aBuiltin P h b ats args = some (v, h')) (ha : AR φ args args')
    (hf : h.next < h'.next → φ h.next = none) : OpEnds P φ h w (builtin b ats ty consts args'.toArray) v h' := by
  unfold aBuiltin at hs
  split at hs
  · rename_i t x hat
    obtain ⟨x', rfl, hx⟩ := arr1 ha
    cases hl : aLen P h t x with
    | none => simp [hl] at hs
    | some u =>
      simp only [hl, Option.map_some, Option.some.injEq, Prod.mk.injEq] at hs
      obtain ⟨rfl, rfl⟩ := hs
      obtain ⟨u', h1, h2⟩ := len_sound (P := P) r hl hx (ty := ty) (ats := ats) (by rw [← Array.getElem?_toList, hat]; rfl)
      exact OpEnds.same r h1 h2
  · rename_i t x hat
    obtain ⟨x', rfl, hx⟩ := arr1 ha
    cases hl : aCap P t x with
    | none => simp [hl] at hs
    | some u =>
      simp only [hl, Option.map_some, Option.some.injEq, Prod.mk.injEq] at hs
      obtain ⟨rfl, rfl⟩ := hs
      obtain ⟨u', h1, h2⟩ := cap_sound (P := P) (w := w) hl hx (ty := ty) (ats := ats) (by rw [← Array.getElem?_toList, hat]; rfl)
      exact OpEnds.same r h1 h2
  · rename_i st xt s x hat
    obtain ⟨s', x', rfl, hs', hx⟩ := arr2 ha
    have he : ats = #[st, xt] := Array.ext' (by rw [hat])
    subst he
    split at hs
    · exact (appendZ_sound (P := P) G r hs hs' hx hf).op
    refine (append_sound (P := P) r hs ?_ hs' hx hf).op
    intro hq
    split at hq
    · rename_i e hu; exact .inl ⟨e, hu⟩
    · rename_i hu; exact .inr hu
    · simp at hq
  · rename_i t rr d s hat
    obtain ⟨d', s', rfl, hd, hs'⟩ := arr2 ha
    exact (copy_sound (P := P) r hs hd hs' (by rw [← Array.getElem?_toList, hat]; rfl)).op
  · rename_i t rr x hat
    obtain ⟨x', rfl, hx⟩ := arr1 ha
    exact (clear_sound (P := P) G r hs hx (by rw [← Array.getElem?_toList, hat]; rfl)).op
  · rename_i t rr m k hat
    obtain ⟨m', k', rfl, hm, hk⟩ := arr2 ha
    exact (delete_sound (P := P) r hs hm hk (by rw [← Array.getElem?_toList, hat]; rfl)).op
  · obtain ⟨u, hl, hq⟩ := Option.map_eq_some_iff.1 hs
    simp only [Prod.mk.injEq] at hq
    obtain ⟨rfl, rfl⟩ := hq
    obtain ⟨u', h1, h2⟩ := minMax_sound (P := P) hl ha ats ty w
    exact OpEnds.same r (by simpa using h1) h2
  · obtain ⟨u, hl, hq⟩ := Option.map_eq_some_iff.1 hs
    simp only [Prod.mk.injEq] at hq
    obtain ⟨rfl, rfl⟩ := hq
    obtain ⟨u', h1, h2⟩ := minMax_sound (P := P) hl ha ats ty w
    exact OpEnds.same r (by simpa using h1) h2
  · simp at hs

set_option maxHeartbeats 2000000 in
theorem op_sound (G : Good P) (r : R P φ h w) {o : Oper} {e : Env} {a : Array Value} {v : Value} {h' : AH} (hs : aOp P o e h = some (v, h')) (k : EnvR φ e a) (hf : h.next < h'.next → φ h.next = none) :
    OpEnds P φ h w (execOp (({ tmps := a, defers := [] } : Act).eval) o) v h' := by
  obtain ⟨dst, op, type, pos, after, guard⟩ := o
  cases op <;> simp only [aOp] at hs <;> try (simp at hs; done)
  case move x =>
    simp only [Option.some.injEq, Prod.mk.injEq] at hs
    obtain ⟨rfl, rfl⟩ := hs
    exact ⟨φ, _, w, .inl (by simp [execOp]), VR.eval k x, Tn.refl r⟩
  case assign x =>
    simp only [Option.some.injEq, Prod.mk.injEq] at hs
    obtain ⟨rfl, rfl⟩ := hs
    exact ⟨φ, _, w, .inl (by simp [execOp]), VR.eval k x, Tn.refl r⟩
  case pick c x y =>
    have hc := VR.eval k c
    split at hs
    · rename_i t hct
      rw [hct] at hc
      simp only [Option.some.injEq, Prod.mk.injEq] at hs
      obtain ⟨rfl, rfl⟩ := hs
      cases hcv : ({ tmps := a, defers := [] } : Act).eval c <;> rw [hcv] at hc <;> cases hc
      refine ⟨φ, cond t (({ tmps := a, defers := [] } : Act).eval x) (({ tmps := a, defers := [] } : Act).eval y), w, .inl ?_, ?_, Tn.refl r⟩
      · cases t <;> simp [execOp, hcv, asBool]
      · cases t
        · exact VR.eval k y
        · exact VR.eval k x
    · simp at hs
  case alloc t =>
    split at hs
    · rename_i z hz
      simp only [aNew, Option.some.injEq, Prod.mk.injEq] at hs
      obtain ⟨rfl, rfl⟩ := hs
      exact (alloc_sound G r hz (hf (by simp))).op
    · simp at hs
  case box t x =>
    split at hs
    · simp at hs
    · rename_i hne
      simp only [aNew, Option.some.injEq, Prod.mk.injEq] at hs
      obtain ⟨rfl, rfl⟩ := hs
      exact (box_sound r (hf (by simp)) (VR.eval k x) (fun xs e => hne xs e)).op
  case build t ps =>
    cases hb : aBuild P t (ps.map fun p => (p.1, ev e p.2)) with
    | none => simp [hb] at hs
    | some u =>
      simp only [hb, Option.map_some, Option.some.injEq, Prod.mk.injEq] at hs
      obtain ⟨rfl, rfl⟩ := hs
      obtain ⟨u', h1, h2⟩ := build_sound (φ := φ) G hb (ps' := ps.map fun p => (p.1, (({ tmps := a, defers := [] } : Act).eval) p.2)) (by simpa using PR.map k ps.toList) w
      exact OpEnds.same r h1 h2
  case buildSlice t n ps =>
    exact (buildSlice_sound G r hs (ps' := ps.map fun p => (p.1, (({ tmps := a, defers := [] } : Act).eval) p.2)) (by simpa using PR.map k ps.toList) hf).op
  case load t x =>
    cases hb : aLoad P h t (ev e x) with
    | none => simp [hb] at hs
    | some u =>
      simp only [hb, Option.map_some, Option.some.injEq, Prod.mk.injEq] at hs
      obtain ⟨rfl, rfl⟩ := hs
      obtain ⟨u', h1, h2⟩ := load_sound r hb (VR.eval k x)
      exact OpEnds.same r h1 h2
  case store t x y =>
    cases hb : aStore P h t (ev e x) (ev e y) with
    | none => simp [hb] at hs
    | some u =>
      simp only [hb, Option.map_some, Option.some.injEq, Prod.mk.injEq] at hs
      obtain ⟨rfl, rfl⟩ := hs
      exact OpEnds.unit (store_sound r hb (VR.eval k x) (VR.eval k y))
  case nilCheck x =>
    have hx := VR.eval k x
    split at hs
    · rename_i ad hev
      simp only [Option.some.injEq, Prod.mk.injEq] at hs
      obtain ⟨rfl, rfl⟩ := hs
      rw [hev] at hx
      generalize hcv : ({ tmps := a, defers := [] } : Act).eval x = x' at hx
      refine ⟨φ, x', w, .inl ?_, hx, Tn.refl r⟩
      cases hx
      simp [execOp, hcv]
    · rename_i f a0 b0 hev
      simp only [Option.some.injEq, Prod.mk.injEq] at hs
      obtain ⟨rfl, rfl⟩ := hs
      rw [hev] at hx
      generalize hcv : ({ tmps := a, defers := [] } : Act).eval x = x' at hx
      refine ⟨φ, x', w, .inl ?_, hx, Tn.refl r⟩
      obtain ⟨fn', xs', ys', rfl, hfr, _⟩ := hx.funcAR
      cases hfr
      simp [execOp, hcv]
    · rename_i f a0 b0 hev
      simp only [Option.some.injEq, Prod.mk.injEq] at hs
      obtain ⟨rfl, rfl⟩ := hs
      rw [hev] at hx
      generalize hcv : ({ tmps := a, defers := [] } : Act).eval x = x' at hx
      refine ⟨φ, x', w, .inl ?_, hx, Tn.refl r⟩
      obtain ⟨fn', xs', ys', rfl, hfr, _⟩ := hx.funcAR
      cases hfr
      simp [execOp, hcv]
    · simp at hs
  case binOp bo t x y yt =>
    cases hb : aBin P bo t (ev e x) (ev e y) with
    | none => simp [hb] at hs
    | some u =>
      simp only [hb, Option.map_some, Option.some.injEq, Prod.mk.injEq] at hs
      obtain ⟨rfl, rfl⟩ := hs
      obtain ⟨u', h1, h2⟩ := bin_sound G hb (VR.eval k x) (VR.eval k y) x y w
      exact OpEnds.same r h1 h2
  case unOp uo t x =>
    cases hb : aUn uo (ev e x) with
    | none => simp [hb] at hs
    | some u =>
      simp only [hb, Option.map_some, Option.some.injEq, Prod.mk.injEq] at hs
      obtain ⟨rfl, rfl⟩ := hs
      obtain ⟨u', h1, h2⟩ := un_sound (P := P) hb (VR.eval k x) w
      exact OpEnds.same r h1 h2
  case convert s d x => exact (convert_sound r hs (VR.eval k x) hf).op
  case makeFunc fn a0 b0 =>
    split at hs
    · rename_i f
      simp only [Option.some.injEq, Prod.mk.injEq] at hs
      obtain ⟨rfl, rfl⟩ := hs
      refine ⟨φ, .func (.func f) (a0.map (({ tmps := a, defers := [] } : Act).eval)) (b0.map (({ tmps := a, defers := [] } : Act).eval)), w, .inl (by simp [execOp, Instr.makeFunc]), ?_, Tn.refl r⟩
      exact AR.func (.func f) (by simpa using AR.map k a0.toList) (by simpa using AR.map k b0.toList)
    · simp at hs
  case makeMap t q =>
    split at hs
    · simp only [Option.some.injEq, Prod.mk.injEq] at hs
      obtain ⟨rfl, rfl⟩ := hs
      have hfr := hf (by simp)
      have ht := Tn.alloc (P := P) r (.map [] 0) (.map #[] 0) ⟨w.heap.size, 0, 0, 0⟩ hfr rfl (fun ψ _ _ => ⟨rfl, trivial⟩) 0
      refine ⟨_, .map (some w.heap.size), _, .inl ?_, .map (r := ⟨w.heap.size, 0, 0, 0⟩) (by simp), ht⟩
      simp [execOp, Instr.makeMap]
    · simp at hs
  case makeSlice t l c => exact (makeSlice_sound G r hs (VR.eval k l) (VR.eval k c) hf).op
  case slice t x lo hi mx =>
    cases hb : aSlice P h t (ev e x) (lo.map (ev e)) (hi.map (ev e)) (mx.map (ev e)) with
    | none => simp [hb] at hs
    | some u =>
      simp only [hb, Option.map_some, Option.some.injEq, Prod.mk.injEq] at hs
      obtain ⟨rfl, rfl⟩ := hs
      obtain ⟨u', h1, h2⟩ := slice_sound r hb (VR.eval k x) (OptVR.map k lo) (OptVR.map k hi) (OptVR.map k mx)
      exact OpEnds.same r h1 h2
  case fieldAddr s x f =>
    cases hb : aFieldAddr P s (ev e x) f with
    | none => simp [hb] at hs
    | some u =>
      simp only [hb, Option.map_some, Option.some.injEq, Prod.mk.injEq] at hs
      obtain ⟨rfl, rfl⟩ := hs
      obtain ⟨u', h1, h2⟩ := fieldAddr_sound (P := P) hb (VR.eval k x) w
      exact OpEnds.same r h1 h2
  case field t x f =>
    cases hb : aField P t (ev e x) f with
    | none => simp [hb] at hs
    | some u =>
      simp only [hb, Option.map_some, Option.some.injEq, Prod.mk.injEq] at hs
      obtain ⟨rfl, rfl⟩ := hs
      obtain ⟨u', h1, h2⟩ := field_sound (P := P) hb (VR.eval k x) w
      exact OpEnds.same r h1 h2
  case indexAddr t x i =>
    cases hb : aIndexAddr P t (ev e x) (ev e i) with
    | none => simp [hb] at hs
    | some u =>
      simp only [hb, Option.map_some, Option.some.injEq, Prod.mk.injEq] at hs
      obtain ⟨rfl, rfl⟩ := hs
      obtain ⟨u', h1, h2⟩ := indexAddr_sound (P := P) hb (VR.eval k x) (VR.eval k i) w
      exact OpEnds.same r h1 h2
  case index t x i =>
    cases hb : aIndex P t (ev e x) (ev e i) with
    | none => simp [hb] at hs
    | some u =>
      simp only [hb, Option.map_some, Option.some.injEq, Prod.mk.injEq] at hs
      obtain ⟨rfl, rfl⟩ := hs
      obtain ⟨u', h1, h2⟩ := index_sound (P := P) hb (VR.eval k x) (VR.eval k i) w
      exact OpEnds.same r h1 h2
  case lookup t m q ok =>
    cases hb : aLookup P h t (ev e m) (ev e q) ok with
    | none => simp [hb] at hs
    | some u =>
      simp only [hb, Option.map_some, Option.some.injEq, Prod.mk.injEq] at hs
      obtain ⟨rfl, rfl⟩ := hs
      obtain ⟨u', h1, h2⟩ := lookup_sound G r hb (VR.eval k m) (VR.eval k q)
      exact OpEnds.same r h1 h2
  case mapUpdate t m q u =>
    cases hb : aMapUpdate P h t (ev e m) (ev e q) (ev e u) with
    | none => simp [hb] at hs
    | some h2 =>
      simp only [hb, Option.map_some, Option.some.injEq, Prod.mk.injEq] at hs
      obtain ⟨rfl, rfl⟩ := hs
      exact OpEnds.unit (mapUpdate_sound r hb (VR.eval k m) (VR.eval k q) (VR.eval k u))
  case range t x =>
    have hx := VR.eval k x
    split at hs
    · rename_i s hu hev
      simp only [Option.some.injEq, Prod.mk.injEq] at hs
      obtain ⟨rfl, rfl⟩ := hs
      rw [hev] at hx
      generalize hcv : ({ tmps := a, defers := [] } : Act).eval x = x' at hx
      cases hx
      have hfr := hf (by simp)
      have ht := Tn.alloc (P := P) r (.siter s 0) (.stringIter s 0) ⟨w.heap.size, 0, 0, 0⟩ hfr rfl (fun ψ _ _ => ⟨rfl, rfl, rfl⟩) 0
      refine ⟨_, .pointer (some ⟨w.heap.size, 0, none⟩), _, .inl ?_, .ptr (r := ⟨w.heap.size, 0, 0, 0⟩) (by simp), ht⟩
      simp [execOp, Instr.range, underlying_run hu, hcv]
    · simp at hs
  case next it st =>
    cases st <;> simp only at hs
    · simp at hs
    · have hx := VR.eval k it
      split at hs
      · rename_i b hev
        rw [hev] at hx
        generalize hcv : ({ tmps := a, defers := [] } : Act).eval it = x' at hx
        split at hs
        · rename_i s p hb
          cases hx with
          | ptr hφ =>
            rename_i rc
            obtain ⟨ho, hsh⟩ := r.siter hb hφ
            have hg := getObj_run (P := P) ho (by intro _ _ _ q; cases q)
            have hp0 : (⟨rc.blk, rc.shift + 0, none⟩ : Addr) = ⟨rc.blk, 0, none⟩ := by rw [hsh]
            rw [hp0] at hcv
            split at hs
            · rename_i hlt
              simp only [Option.some.injEq, Prod.mk.injEq] at hs
              obtain ⟨rfl, rfl⟩ := hs
              have hput := Tn.put (P := P) r hb hφ rfl (o2 := .siter s (p + (Utf8.decode s p).2)) (O2 := .stringIter s (p + (Utf8.decode s p).2)) ⟨rfl, rfl, hsh⟩ 0
              have hset := setObj_run (P := P) (w := w) (o2 := .stringIter s (p + (Utf8.decode s p).2)) ho (by intro _ _ _ q; cases q)
              refine ⟨φ, .tuple #[.bool true, goInt p, .int .i32 (Utf8.decode s p).1], _, .inl ?_, ?_, hput⟩
              · simp [execOp, Instr.next, hcv, hg, hlt, hset]
              · exact AR.tuple ⟨.bool _, .int _ _, .int _ _, trivial⟩
            · rename_i hlt
              simp only [Option.some.injEq, Prod.mk.injEq] at hs
              obtain ⟨rfl, rfl⟩ := hs
              refine ⟨φ, .tuple #[.bool false], w, .inl ?_, ?_, Tn.refl r⟩
              · simp [execOp, Instr.next, hcv, hg, hlt]
              · exact AR.tuple ⟨.bool _, trivial⟩
        · simp at hs
      · simp at hs
  case extract t i =>
    have hx := VR.eval k t
    split at hs
    · rename_i vs hev
      rw [hev] at hx
      generalize hcv : ({ tmps := a, defers := [] } : Act).eval t = x' at hx
      cases hb : vs[i]? with
      | none => simp [hb] at hs
      | some u =>
        simp only [hb, Option.map_some, Option.some.injEq, Prod.mk.injEq] at hs
        obtain ⟨rfl, rfl⟩ := hs
        rcases hx.tupleAR with rfl | ⟨vs', rfl, har⟩
        · simp at hb
        · obtain ⟨u', hu', hr⟩ := har.at i u (by simpa using hb)
          have : vs'[i]? = some u' := by simpa using hu'
          exact OpEnds.same r (by simp [Instr.extract, hcv, this]) hr
    · simp at hs
  case call c =>
    obtain ⟨callee, args, ats⟩ := c
    cases callee <;> simp only at hs <;> try (simp at hs; done)
    case builtin b =>
      have hb := fun cs => builtin_sound (P := P) G r (ty := type) (consts := cs) hs (AR.map k args.toList) hf
      have e1 : (args.toList.map (({ tmps := a, defers := [] } : Act).eval)).toArray = args.map (({ tmps := a, defers := [] } : Act).eval) := Array.ext' (by simp)
      have e2 : execOp (({ tmps := a, defers := [] } : Act).eval) ⟨dst, .call ⟨.builtin b, args, ats⟩, type, pos, after, guard⟩ = builtin b ats type (args.map fun | .const _ => true | _ => false) (args.map (({ tmps := a, defers := [] } : Act).eval)) := rfl
      rw [e2, ← e1]
      exact hb _
end Go.Am
