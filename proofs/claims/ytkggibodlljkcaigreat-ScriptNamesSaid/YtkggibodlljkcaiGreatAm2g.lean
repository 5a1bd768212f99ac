/-
  Each operation of the abstract machine is met by the model's: copy, clear, conversions, comparisons.
-/
import Derived.Test.YtkggibodlljkcaiGreatAm2f
import Derived.DeepKeys3
set_option linter.unusedVariables false
set_option linter.unusedSimpArgs false
namespace Go.Am
variable {P : Program} {φ φ' : Fi} {h h' : AH} {w w' : World}

theorem Ends.same {S : Sem Value} {v v' : Value} (r : R P φ h w) (hr : S.run P w = .ok v' w) (hv : VR φ v v') : Ends P φ h w S v h := ⟨φ, v', w, hr, hv, Tn.refl r⟩

theorem copy_sound (r : R P φ h w) {dType ty : TypeId} {ats : Array TypeId} {d d' s s' v : Value} {h' : AH} (hs : aCopy P h dType d s = some (v, h')) (hd : VR φ d d') (hsr : VR φ s s') (hat : ats[0]? = some dType) :
    Ends P φ h w (Builtin.copy_ ats ty #[d', s']) v h' := by
  unfold aCopy at hs
  split at hs
  rotate_left
  · simp at hs
  rename_i elem base dLen c0 hu
  split at hs
  rotate_left
  · simp at hs
  rename_i i sl hi hl
  split at hs
  rotate_left
  · simp at hs
  rename_i cells hc
  obtain ⟨ds, hlr, hrun⟩ := firstC_run (P := P) r hsr hc
  have hlen := lenV_run (P := P) hsr hl
  have hcell : P.cellsOf elem = i.size := by simp [Program.cellsOf, hi]
  have hsz := fun w => sizeOf_run (P := P) (t := elem) (show (P.info? elem).isSome = true by simp [hi]) w
  rw [hcell] at hsz
  have hat' : ats.toList[0]? = some dType := by simpa using hat
  split at hs
  · simp only [Option.some.injEq, Prod.mk.injEq] at hs
    obtain ⟨rfl, rfl⟩ := hs
    cases hd
    refine Ends.same r ?_ (.int _ _)
    simp [Builtin.copy_, hat, underlying_run hu, hlen, hsz, hrun w rfl, goInt]
  · simp only [Option.some.injEq, Prod.mk.injEq] at hs
    obtain ⟨rfl, rfl⟩ := hs
    have hds : ds = [] := by cases ds <;> first | rfl | exact absurd hlr (by simp [LR])
    subst hds
    have hr0 := hrun w rfl
    cases hd with
    | slice =>
      refine Ends.same r ?_ (.int _ _)
      simp [Builtin.copy_, hat, underlying_run hu, hlen, hsz, hr0, goInt, storeCells]
    | sliceO =>
      refine Ends.same r ?_ (.int _ _)
      simp [Builtin.copy_, hat, underlying_run hu, hlen, hsz, hr0, goInt, storeCells]
    | sliceE =>
      refine Ends.same r ?_ (.int _ _)
      rw [show sl.min 0 = 0 from Nat.min_zero sl] at hr0
      simp [Builtin.copy_, hat, underlying_run hu, hlen, hsz, hr0, goInt, storeCells]
  · rename_i b off c cs
    split at hs
    · simp at hs
    rename_i hdl
    split at hs
    rotate_left
    · simp at hs
    rename_i h2 hst
    simp only [Option.some.injEq, Prod.mk.injEq] at hs
    obtain ⟨rfl, rfl⟩ := hs
    have gen : ∀ rc c1, φ b = some rc → d' = .slice (some ⟨rc.blk, rc.shift + off, none⟩) dLen c1 → Ends P φ h w (Builtin.copy_ ats ty #[d', s']) (.int .i64 ↑(sl.min dLen)) h2 := by
      intro rc c1 hφ hd'
      subst hd'
      obtain ⟨w1, k1, k2⟩ := storeCells_sound (P := P) r hst hφ hlr
      refine ⟨φ, _, w1, ?_, .int _ _, k2⟩
      simp [Builtin.copy_, hat, underlying_run hu, hlen, hsz, hrun w rfl, goInt, k1]
    cases hd with
    | slice hφ _ => exact gen _ _ hφ rfl
    | sliceO hφ _ _ _ => exact gen _ _ hφ rfl
    | sliceE hφ => exact absurd rfl hdl
  · simp at hs

theorem clear_sound (G : Good P) (r : R P φ h w) {t ty : TypeId} {x x' v : Value} {h' : AH} {ats : Array TypeId} (hs : aClear P h t x = some (v, h')) (hx : VR φ x x') (hat : ats[0]? = some t) :
    Ends P φ h w (Builtin.clear_ ats ty #[x']) v h' := by
  unfold aClear at hs
  split at hs
  · rename_i elem b off n c0 hu
    split at hs
    rotate_left
    · simp at hs
    rename_i zs hz
    split at hs
    rotate_left
    · simp at hs
    rename_i hzl
    split at hs
    rotate_left
    · simp at hs
    rename_i h2 hst
    simp only [Option.some.injEq, Prod.mk.injEq] at hs
    obtain ⟨rfl, rfl⟩ := hs
    obtain ⟨i, z, hi, hz', rfl, hne⟩ := zeroCells_info hz
    have gen : ∀ rc c1, φ b = some rc → x' = .slice (some ⟨rc.blk, rc.shift + off, none⟩) (n + 1) c1 → Ends P φ h w (Builtin.clear_ ats ty #[x']) undef h2 := by
      intro rc c1 hφ hx'
      subst hx'
      obtain ⟨w1, k1, k2⟩ := storeCells_sound (P := P) r hst hφ ((zeroCells_LR (φ := φ) G hz).replicate (n + 1))
      refine ⟨φ, .tuple #[], w1, ?_, .junk _, k2⟩
      have e : (Builtin.zeroCells z.cells (n + 1)).toList = (List.replicate (n + 1) z.cells.toList).flatten := zeros_eq rfl
      simp [Builtin.clear_, hat, underlying_run hu, zero_run hi hz', e, k1]
    cases hx with
    | slice hφ _ => exact gen _ _ hφ rfl
    | sliceO hφ _ _ _ => exact gen _ _ hφ rfl
  · rename_i e base c hne hu
    simp only [Option.some.injEq, Prod.mk.injEq] at hs
    obtain ⟨rfl, rfl⟩ := hs
    refine ⟨φ, .tuple #[], w, ?_, .junk _, Tn.refl r⟩
    cases hx <;> simp [Builtin.clear_, hat, underlying_run hu]
  · rename_i e n c hne hu
    simp only [Option.some.injEq, Prod.mk.injEq] at hs
    obtain ⟨rfl, rfl⟩ := hs
    refine ⟨φ, .tuple #[], w, ?_, .junk _, Tn.refl r⟩
    cases hx
    simp [Builtin.clear_, hat, underlying_run hu]
  · simp at hs

/-! ## Conversions -/
/-- The bytes of cells, pushed one by one. -/
theorem pushBytes : ∀ (cs : List Value) (bs : List UInt8) (acc : ByteArray), bytesOfCells cs = some bs → ∀ (w : World),
    (forIn (m := Sem) cs acc (fun c s => match c with
      | .int .u8 n => pure (ForInStep.yield (s.push (UInt8.ofNat n.toNat)))
      | _ => do
        stuck "bytesToString: byte expected"
        pure (ForInStep.yield s))).run P w = .ok (⟨acc.data ++ bs.toArray⟩ : ByteArray) w
  | [], bs, acc, hb, w => by
    simp only [bytesOfCells, Option.some.injEq] at hb
    subst hb
    simp
  | c :: cs, bs, acc, hb, w => by
    unfold bytesOfCells at hb
    split at hb
    · rename_i hcs; simp at hcs
    · rename_i n r hcs
      simp only [List.cons.injEq] at hcs
      obtain ⟨rfl, rfl⟩ := hcs
      cases hr : bytesOfCells cs with
      | none => simp [hr] at hb
      | some bs2 =>
        simp only [hr, Option.map_some, Option.some.injEq] at hb
        subst hb
        have ih := pushBytes cs bs2 (acc.push (UInt8.ofNat n.toNat)) hr w
        simp only [List.forIn_cons, Sem.run_bind, Sem.run_pure, Result.andThen_ok]
        rw [ih]
        congr 2
        apply Array.ext'
        simp [ByteArray.push]
    · simp at hb
theorem bytes_LR : ∀ {cs ds : List Value} {bs : List UInt8}, LR φ cs ds → bytesOfCells cs = some bs → ds = cs
  | [], [], _, _, _ => rfl
  | c :: cs, d :: ds, bs, r, hb => by
    unfold bytesOfCells at hb
    split at hb
    · rename_i hcs; simp at hcs
    · rename_i n rr hcs
      simp only [List.cons.injEq] at hcs
      obtain ⟨rfl, rfl⟩ := hcs
      cases hr : bytesOfCells cs with
      | none => simp [hr] at hb
      | some bs2 =>
        have := bytes_LR r.2.2 hr
        subst this
        obtain ⟨h1, _, _⟩ := r
        cases h1
        rfl
    · simp at hb

theorem convert_sound (r : R P φ h w) {src dst : TypeId} {x x' v : Value} {h' : AH} (hs : aConvert P h src dst x = some (v, h')) (hx : VR φ x x') (hf : h.next < h'.next → φ h.next = none) :
    Ends P φ h w (convert src dst x') v h' := by
  unfold aConvert at hs
  split at hs
  · rename_i k1 k k0 n hu1 hu2
    simp only [Option.some.injEq, Prod.mk.injEq] at hs
    obtain ⟨rfl, rfl⟩ := hs
    cases hx
    refine Ends.same r ?_ (.int _ _)
    simp [convert, underlying_run hu1, underlying_run hu2, Conv.intToInt]
  · rename_i s hu1 hu2
    simp only [Option.some.injEq, Prod.mk.injEq] at hs
    obtain ⟨rfl, rfl⟩ := hs
    cases hx
    refine Ends.same r ?_ (.string _)
    simp [convert, underlying_run hu1, underlying_run hu2]
  · rename_i e s hu1 hu2
    split at hs
    · rename_i hue
      split at hs
      · rename_i hsz
        simp only [Option.some.injEq, Prod.mk.injEq] at hs
        obtain ⟨rfl, rfl⟩ := hs
        have hf0 := hf (by simp)
        cases hx
        have hcap : ∀ t : Nat, s.size ≤ s.size + t % (2 ^ 63 - s.size) := fun t => Nat.le_add_right _ _
        have hmod := Nat.mod_lt (w.tape w.drawn (.appendCap s.size 0 e)) (show 0 < 2 ^ 63 - s.size by have := hsz.1; simp only [roomMax] at this; omega)
        generalize hq : s.size + w.tape w.drawn (.appendCap s.size 0 e) % (2 ^ 63 - s.size) = cap at *
        have hle : s.size ≤ cap := by omega
        have hlt : cap < openCap := by simp only [openCap]; omega
        let C : Array Value := (s.data.map fun b => Value.int .u8 b.toNat) ++ Array.replicate (cap - s.size) (.int .u8 0)
        have hC : C.toList = (s.data.toList.map fun b => Value.int .u8 b.toNat) ++ List.replicate (cap - s.size) (.int .u8 0) := by simp [C]
        have hCs : C.size = cap := by
          rw [← Array.length_toList, hC]
          simp only [List.length_append, List.length_map, List.length_replicate, Array.length_toList]
          have : s.data.size = s.size := rfl
          omega
        obtain ⟨φ', k1, k2⟩ : ∃ φ', φ' h.next = some ⟨w.heap.size, 0, C.size, P.cellsOf e⟩ ∧ Tn P φ h w φ' (h.alloc (.cells (s.data.toList.map fun b => .int .u8 b.toNat) e false)) { w with heap := w.heap.push (.cells C e (cap, cap + 1)), drawn := w.drawn + 1 } := by
          refine ⟨fun b => if b = h.next then some ⟨w.heap.size, 0, C.size, P.cellsOf e⟩ else φ b, by simp, ?_⟩
          refine Tn.alloc r _ _ _ hf0 rfl ?_ 1
          intro ψ hle' hψ
          refine ⟨rfl, rfl, rfl, ⟨[], _, List.replicate (cap - s.size) (.int .u8 0), by rw [hC]; rfl, rfl, intCells ψ _⟩, fun _ => .inr ?_⟩
          exact Nat.le_of_eq hCs
        refine ⟨φ', .slice (some ⟨w.heap.size, 0, none⟩) s.size cap, _, ?_, ?_, k2⟩
        · have hcut : (Question.appendCap s.size 0 e).cut (w.tape w.drawn (.appendCap s.size 0 e)) = cap := hq
          simp only [convert, Sem.run_bind, underlying_run hu1, underlying_run hu2, underlying_run hue, Result.andThen_ok, Conv.stringToBytes, run_choose, Question.forced, Bool.false_eq_true, if_false, hcut]
          simp only [newRow, Sem.run_bind, run_newObj, Result.andThen_ok, Sem.run_pure, markStringish, run_shape, World.shape?]
          simp only [Array.getElem?_push_size]
          simp only [Sem.run_bind, run_freeze, Result.andThen_ok, Sem.run_pure]
          congr 1
          simp only [World.freeze]
          rw [if_neg (by omega)]
          congr 1
          apply Array.ext_getElem?
          intro q
          rw [Array.getElem?_modify, Array.getElem?_push]
          by_cases hqw : q = w.heap.size
          · subst hqw
            simp only [if_true, Option.map_some, Array.getElem?_push_size]
            have : C.size = cap := hCs
            simp [C] at this ⊢
            omega
          · rw [if_neg (fun e => hqw e.symm), if_neg hqw]
            simp [Array.getElem?_push, hqw]
        · have := VR.sliceO (φ := φ') (off := 0) (n := s.size) (c := cap) k1 hlt hle (by simp only [hsz.2, hCs]; omega)
          simpa using this
      · simp at hs
    · simp at hs
  · rename_i e a0 n c0 hu1 hu2
    split at hs
    rotate_left
    · simp at hs
    rename_i hue
    split at hs
    rotate_left
    · simp at hs
    rename_i cs hc
    split at hs
    rotate_left
    · simp at hs
    rename_i bs hb
    simp only [Option.some.injEq, Prod.mk.injEq] at hs
    obtain ⟨rfl, rfl⟩ := hs
    obtain ⟨ds, hlr, hrun⟩ := firstC_run (P := P) r hx hc
    have hds := bytes_LR hlr hb
    subst hds
    have hrun' := hrun w rfl
    have hloop := pushBytes (P := P) ds bs ByteArray.empty hb w
    refine Ends.same r ?_ (.string _)
    have fin : ∀ a c1, x' = .slice (some a) n c1 → (convert src dst x').run P w = .ok (.string ⟨bs.toArray⟩) w := by
      intro a c1 hx'
      subst hx'
      simp only [Builtin.firstCells, Nat.mul_one] at hrun'
      simp only [convert, Sem.run_bind, underlying_run hu1, underlying_run hu2, underlying_run hue, Result.andThen_ok, Conv.bytesToString, hrun', ← Array.forIn_toList]
      refine Eq.trans (congrArg (fun (r : Result ByteArray) => r.andThen fun a w' => Sem.run P (pure (Value.string a)) w') hloop) ?_
      simp [ByteArray.empty, ByteArray.emptyWithCapacity]
      rfl
    cases hx with
    | slice => exact fin _ _ rfl
    | sliceO => exact fin _ _ rfl
    | sliceE => exact fin _ _ rfl
    | sliceNil =>
      simp only [firstC, Option.some.injEq] at hc
      subst hc
      simp only [bytesOfCells, Option.some.injEq] at hb
      subst hb
      simp [convert, underlying_run hu1, underlying_run hu2, underlying_run hue, Conv.bytesToString, ByteArray.empty, ByteArray.emptyWithCapacity]
      rfl
  · rename_i e1 e2 b off n c0 hu1 hu2
    split at hs
    rotate_left
    · simp at hs
    rename_i cs e hue hb
    split at hs
    rotate_left
    · simp at hs
    rename_i hsd
    subst hsd
    simp only [Option.some.injEq, Prod.mk.injEq] at hs
    obtain ⟨rfl, rfl⟩ := hs
    have he12 : e1 = e2 := by
      rw [hu1] at hu2
      simpa using hu2
    subst he12
    have key : ∀ rc a c1, φ b = some rc → a.block = rc.blk → x' = .slice (some a) n c1 → Ends P φ h w (convert src src x') (.slice (some ⟨b, off, none⟩) n c0) (h.set b (.cells cs e false)) := by
      intro rc a c1 hφ ha hx'
      obtain ⟨C, m, pre, mid, post, ho, hes, htot, hC, hsh, hlr, hnf⟩ := r.cells hb hφ
      have hlt : rc.blk < w.heap.size := (Array.getElem?_eq_some_iff.1 ho).1
      have hgt := (Array.getElem?_eq_some_iff.1 ho).2
      let m' : Nat × Nat := if m.1 == m.2 then (C.size, C.size + 1) else (min m.1 C.size, max m.2 (C.size + 1))
      have hm' : NF m' rc.total := by
        right
        simp only [m']
        rcases hnf rfl with k | k
        · simp [k, htot]
        · split
          · simp [htot]
          · simp only [htot]; omega
      have tp := Tn.put (P := P) r hb hφ rfl (o2 := .cells cs e false) (O2 := .cells C e m') ⟨rfl, hes, htot, ⟨pre, mid, post, hC, hsh, hlr⟩, fun _ => hm'⟩ 0
      refine ⟨φ, x', _, ?_, by rw [hx']; rw [hx'] at hx; exact hx, tp⟩
      have hshape : w.shape? a.block = some (e, C.size) := by
        simp only [World.shape?, ha, ho]
      have hfr : w.freeze ⟨a.block, C.size, none⟩ 1 = { w with heap := w.heap.setIfInBounds rc.blk (.cells C e m'), drawn := w.drawn + 0 } := by
        simp only [World.freeze]
        rw [if_neg (by omega)]
        simp only [Nat.add_zero]
        congr 1
        apply Array.ext_getElem?
        intro q
        rw [Array.getElem?_modify, Array.getElem?_setIfInBounds, ha]
        by_cases hq : rc.blk = q
        · subst hq
          rw [if_pos rfl, if_pos rfl, if_pos hlt, ho]
          obtain ⟨lo, hi⟩ := m
          rfl
        · rw [if_neg hq, if_neg hq]
      subst hx'
      simp only [convert, Sem.run_bind, underlying_run hu1, underlying_run hue, Result.andThen_ok, beq_self_eq_true, markStringish, run_shape, hshape, run_freeze, Sem.run_pure, hfr]
    cases hx with
    | slice hφ hc => exact key _ _ _ hφ rfl rfl
    | sliceO hφ hc hn ht => exact key _ _ _ hφ rfl rfl
    | sliceE hφ => exact key _ _ _ hφ rfl rfl
  · simp at hs
end Go.Am
