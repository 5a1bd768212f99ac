/-
  Each operation of the abstract machine is met by the model's: slices, append, copy, what is made.
-/
import Derived.Test.YtkggibodlljkcaiGreatAm2b
set_option linter.unusedVariables false
set_option linter.unusedSimpArgs false
namespace Go.Am
variable {P : Program} {φ φ' : Fi} {h h' : AH} {w w' : World}

inductive OptVR (φ : Fi) : Option Value → Option Value → Prop
  | none : OptVR φ none none
  | some {v v' : Value} (h : VR φ v v') : OptVR φ (some v) (some v')
theorem OptVR.map {e : Env} {a : Array Value} (k : EnvR φ e a) (x : Option Operand) : OptVR φ (x.map (ev e)) (x.map (({ tmps := a, defers := [] } : Act).eval)) := by
  cases x with
  | none => exact .none
  | some x => exact .some (VR.eval k x)

theorem bound_run {v v' : Value} {y y' n : Nat} (hb : boundOf v y = some n) (hv : VR φ v v') (hy : y ≤ y') (code : BoundsCode) (w : World) : (Instr.sliceBound v' y' code).run P w = .ok n w := by
  unfold boundOf at hb
  split at hb
  · rename_i k i
    split at hb
    · rename_i hc
      simp only [Option.some.injEq] at hb
      subst hb
      cases hv
      have : 0 ≤ i ∧ i ≤ (y' : Int) := ⟨hc.1, by omega⟩
      simp [Instr.sliceBound, asIntOf, this]
    · simp at hb
  · simp at hb
theorem bound_le {v : Value} {y n : Nat} (hb : boundOf v y = some n) : n ≤ y := by
  unfold boundOf at hb
  split at hb
  · split at hb
    · simp only [Option.some.injEq] at hb; omega
    · simp at hb
  · simp at hb
theorem bounds_run {lo lo' hi hi' mx mx' : Option Value} {len c0 cap l hh m : Nat} (hb : aBounds len c0 lo hi mx = some (l, hh, m)) (h1 : OptVR φ lo lo') (h2 : OptVR φ hi hi') (h3 : OptVR φ mx mx') (hc : c0 ≤ cap) (sl : Bool) (w : World) :
    (Instr.sliceBounds sl len cap lo' hi' mx').run P w = .ok (l, hh, if mx.isNone then cap else m) w ∧ l ≤ hh ∧ (mx = none → m = c0) ∧ m ≤ c0 ∧ (hi.isSome ∨ mx.isSome → hh ≤ m) ∧ (hi = none → mx = none → hh = len) := by
  unfold aBounds at hb
  cases h3 with
  | none =>
    simp only at hb
    cases h2 with
    | none =>
      simp only at hb
      cases h1 with
      | none =>
        simp only [Option.some.injEq, Prod.mk.injEq] at hb
        obtain ⟨rfl, rfl, rfl⟩ := hb
        simp [Instr.sliceBounds]
      | some hv =>
        rename_i v v'
        cases e : boundOf v len with
        | none => simp [e] at hb
        | some n =>
          simp only [e, Option.some.injEq, Prod.mk.injEq] at hb
          obtain ⟨rfl, rfl, rfl⟩ := hb
          refine ⟨?_, bound_le e, fun _ => rfl, Nat.le_refl _, by simp, by simp⟩
          simp [Instr.sliceBounds, bound_run e hv (Nat.le_refl _)]
    | some hv2 =>
      rename_i v2 v2'
      cases e2 : boundOf v2 c0 with
      | none => simp [e2] at hb
      | some n2 =>
        simp only [e2] at hb
        have r2 := fun code w => bound_run (P := P) e2 hv2 hc code w
        have l2 := bound_le e2
        cases h1 with
        | none =>
          simp only [Option.some.injEq, Prod.mk.injEq] at hb
          obtain ⟨rfl, rfl, rfl⟩ := hb
          refine ⟨?_, Nat.zero_le _, fun _ => rfl, Nat.le_refl _, fun _ => l2, by simp⟩
          simp [Instr.sliceBounds, r2]
        | some hv =>
          rename_i v v'
          cases e : boundOf v n2 with
          | none => simp [e] at hb
          | some n =>
            simp only [e, Option.some.injEq, Prod.mk.injEq] at hb
            obtain ⟨rfl, rfl, rfl⟩ := hb
            refine ⟨?_, bound_le e, fun _ => rfl, Nat.le_refl _, fun _ => l2, by simp⟩
            simp [Instr.sliceBounds, r2, bound_run e hv (Nat.le_refl _)]
  | some hv3 =>
    rename_i v3 v3'
    simp only at hb
    cases e3 : boundOf v3 c0 with
    | none => simp [e3] at hb
    | some m3 =>
      simp only [e3] at hb
      have r3 := fun code w => bound_run (P := P) e3 hv3 hc code w
      have l3 := bound_le e3
      cases h2 with
      | none => simp at hb
      | some hv2 =>
        rename_i v2 v2'
        simp only at hb
        cases e2 : boundOf v2 m3 with
        | none => simp [e2] at hb
        | some n2 =>
          simp only [e2] at hb
          have r2 := fun code w => bound_run (P := P) e2 hv2 (Nat.le_refl _) code w
          have l2 := bound_le e2
          cases h1 with
          | none =>
            simp only [Option.some.injEq, Prod.mk.injEq] at hb
            obtain ⟨rfl, rfl, rfl⟩ := hb
            refine ⟨?_, Nat.zero_le _, by simp, l3, fun _ => l2, by simp⟩
            simp [Instr.sliceBounds, r2, r3]
          | some hv =>
            rename_i v v'
            cases e : boundOf v n2 with
            | none => simp [e] at hb
            | some n =>
              simp only [e, Option.some.injEq, Prod.mk.injEq] at hb
              obtain ⟨rfl, rfl, rfl⟩ := hb
              refine ⟨?_, bound_le e, by simp, l3, fun _ => l2, by simp⟩
              simp [Instr.sliceBounds, r2, r3, bound_run e hv (Nat.le_refl _)]

theorem vr_slice {b off n c : Nat} {r : Rec} (hφ : φ b = some r) (hc : c < openCap) (o' : Nat) (ho : o' = r.shift + off) : VR φ (.slice (some ⟨b, off, none⟩) n c) (.slice (some ⟨r.blk, o', none⟩) n c) := by
  subst ho; exact .slice hφ hc

theorem slice_sound (r : R P φ h w) {t : TypeId} {x x' u : Value} {lo lo' hi hi' mx mx' : Option Value} (hs : aSlice P h t x lo hi mx = some u) (hx : VR φ x x') (h1 : OptVR φ lo lo') (h2 : OptVR φ hi hi') (h3 : OptVR φ mx mx') :
    ∃ u', (Instr.sliceAt t x' lo' hi' mx').run P w = .ok u' w ∧ VR φ u u' := by
  unfold aSlice at hs
  split at hs
  · rename_i n elem b off hu
    split at hs
    · rename_i l hh m hb
      split at hs
      · rename_i hi2
        simp only [Option.some.injEq] at hs
        subst hs
        obtain ⟨hr, hle, hm1, hm2, hm3, hm4⟩ := bounds_run (P := P) hb h1 h2 h3 (Nat.le_refl _) false w
        have hm : (if mx.isNone then n else m) = m := by
          cases mx with
          | none => simp [hm1 rfl]
          | some _ => simp
        rw [hm] at hr
        cases hx with
        | ptr hφ =>
          rename_i rc
          refine ⟨.slice (some ⟨rc.blk, rc.shift + (if m = l then off else off + l * P.cellsOf elem), none⟩) (hh - l) (m - l), ?_, .slice hφ (by have := hi2.2; omega)⟩
          simp only [Instr.sliceAt, Sem.run_bind, underlying_run hu, Result.andThen_ok, Instr.sureAddr, Sem.run_pure, hr, sizeOf_run hi2.1]
          split <;> simp [add_plain, Nat.add_assoc]
      · simp at hs
    · simp at hs
  · rename_i arr b off hu
    split at hs
    · rename_i n elem hu2
      split at hs
      · rename_i l hh m hb
        split at hs
        · rename_i hi2
          simp only [Option.some.injEq] at hs
          subst hs
          obtain ⟨hr, hle, hm1, hm2, hm3, hm4⟩ := bounds_run (P := P) hb h1 h2 h3 (Nat.le_refl _) false w
          have hm : (if mx.isNone then n else m) = m := by
            cases mx with
            | none => simp [hm1 rfl]
            | some _ => simp
          rw [hm] at hr
          cases hx with
          | ptr hφ =>
            rename_i rc
            refine ⟨.slice (some ⟨rc.blk, rc.shift + (if m = l then off else off + l * P.cellsOf elem), none⟩) (hh - l) (m - l), ?_, .slice hφ (by have := hi2.2; omega)⟩
            simp only [Instr.sliceAt, Instr.slice, Sem.run_bind, underlying_run hu, underlying_run hu2, Result.andThen_ok, asAddr, Sem.run_pure, hr, sizeOf_run hi2.1]
            split <;> simp [add_plain, Nat.add_assoc]
        · simp at hs
      · simp at hs
    · simp at hs
  · rename_i s hu
    split at hs
    · rename_i l hh m hb
      simp only [Option.some.injEq] at hs
      subst hs
      cases hx
      cases h3
      obtain ⟨hr, _⟩ := bounds_run (P := P) hb h1 h2 .none (Nat.le_refl _) false w
      refine ⟨_, ?_, .string _⟩
      simp only [Instr.sliceAt, Instr.slice, Sem.run_bind, underlying_run hu, Result.andThen_ok, Option.isSome_none, Bool.false_eq_true, if_false, Sem.run_pure, hr]
    · simp at hs
  · rename_i elem len cap hu
    split at hs
    · rename_i l hh m hb
      split at hs
      · rename_i hi2
        simp only [Option.some.injEq] at hs
        subst hs
        cases hx
        obtain ⟨hr, hle, hm1, hm2, hm3, hm4⟩ := bounds_run (P := P) hb h1 h2 h3 (Nat.le_refl _) true w
        have hm : (if mx.isNone then cap else m) = m := by
          cases mx with
          | none => simp [hm1 rfl]
          | some _ => simp
        rw [hm] at hr
        refine ⟨.slice none (hh - l) (m - l), ?_, .sliceNil _ _ (by omega)⟩
        simp only [Instr.sliceAt, Instr.slice, Sem.run_bind, underlying_run hu, Result.andThen_ok, Sem.run_pure, hr, sizeOf_run hi2.1]
        split <;> simp
      · simp at hs
    · simp at hs
  · rename_i elem b off len cap hu
    split at hs
    · rename_i hi2
      split at hs
      · rename_i hcap
        subst hcap
        split at hs
        · rename_i l hh m cs0 e ro hb hg
          split at hs
          · split at hs
            · rename_i hsz
              simp only [Option.some.injEq] at hs
              subst hs
              cases h3
              cases hx with
              | slice hφ hc => exact absurd hc (by simp [openCap])
              | sliceO hφ hc hn ht =>
                rename_i c' rc
                obtain ⟨hr, hle, hm1, hm2, hm3, hm4⟩ := bounds_run (P := P) hb h1 h2 .none hn true w
                simp only [Option.isNone_none, if_true] at hr
                obtain ⟨C, m', pre, mid, post, ho, hes, htot, hC, hsh, hlr, hnf⟩ := r.cells hg hφ
                have hhl : hh ≤ len := by
                  cases hi with
                  | none => rw [hm4 rfl rfl]; exact Nat.le_refl _
                  | some _ => exact Nat.le_trans (hm3 (by simp)) hm2
                by_cases hcl : c' = l
                · refine ⟨.slice (some ⟨rc.blk, rc.shift + off, none⟩) 0 0, ?_, ?_⟩
                  · subst hcl
                    simp only [Instr.sliceAt, Instr.slice, Sem.run_bind, underlying_run hu, Result.andThen_ok, Sem.run_pure, hr, sizeOf_run hi2, if_true]
                    have : hh - c' = 0 := by omega
                    simp [this]
                  · have : hh - l = 0 := by omega
                    rw [this]
                    exact .sliceE hφ
                · refine ⟨.slice (some ⟨rc.blk, rc.shift + (off + l * P.cellsOf elem), none⟩) (hh - l) (c' - l), ?_, .sliceO hφ (by omega) (by omega) ?_⟩
                  · simp only [Instr.sliceAt, Instr.slice, Sem.run_bind, underlying_run hu, Result.andThen_ok, Sem.run_pure, hr, sizeOf_run hi2, hcl, if_false]
                    simp [add_plain, Nat.add_assoc]
                  · rw [hes, hsz] at ht ⊢
                    have hlc : l ≤ c' := by omega
                    have : (c' - l) * P.cellsOf elem + l * P.cellsOf elem = c' * P.cellsOf elem := by rw [← Nat.add_mul]; congr 1; omega
                    omega
              | sliceE hφ =>
                rename_i o' rc
                obtain ⟨hr, hle, hm1, hm2, hm3, hm4⟩ := bounds_run (P := P) (cap := 0) hb h1 h2 .none (Nat.le_refl _) true w
                simp only [Option.isNone_none, if_true] at hr
                have hhl : hh ≤ 0 := by
                  cases hi with
                  | none => rw [hm4 rfl rfl]; exact Nat.le_refl _
                  | some _ => exact Nat.le_trans (hm3 (by simp)) hm2
                have hl0 : l = 0 := by omega
                have hh0 : hh = 0 := by omega
                subst hl0 hh0
                refine ⟨.slice (some ⟨rc.blk, o', none⟩) 0 0, ?_, .sliceE hφ⟩
                simp [Instr.sliceAt, Instr.slice, underlying_run hu, hr, sizeOf_run hi2]
            · simp at hs
          · split at hs
            · rename_i v0 hlen
              simp only [Option.some.injEq] at hs
              subst hs
              cases hx with
              | slice hφ hc => exact absurd hc (by simp [openCap])
              | sliceO hφ hc hn ht =>
                rename_i c' rc
                obtain ⟨hr, hle, hm1, hm2, hm3, hm4⟩ := bounds_run (P := P) hb h1 h2 h3 hn true w
                simp only [Option.isNone_some, Bool.false_eq_true, if_false] at hr
                refine ⟨.slice (some ⟨rc.blk, rc.shift + (if m = l then off else off + l * P.cellsOf elem), none⟩) (hh - l) (m - l), ?_, .slice hφ (by omega)⟩
                simp only [Instr.sliceAt, Instr.slice, Sem.run_bind, underlying_run hu, Result.andThen_ok, Sem.run_pure, hr, sizeOf_run hi2]
                split <;> simp [add_plain, Nat.add_assoc]
              | sliceE hφ => omega
            · simp at hs
        · simp at hs
      · split at hs
        · rename_i hncap hcap
          split at hs
          · rename_i l hh m hb
            simp only [Option.some.injEq] at hs
            subst hs
            cases hx with
            | sliceO hφ hc hn ht => omega
            | sliceE hφ => omega
            | slice hφ hc =>
              rename_i rc
              obtain ⟨hr, hle, hm1, hm2, hm3, hm4⟩ := bounds_run (P := P) hb h1 h2 h3 (Nat.le_refl _) true w
              have hm : (if mx.isNone then cap else m) = m := by
                cases mx with
                | none => simp [hm1 rfl]
                | some _ => simp
              rw [hm] at hr
              refine ⟨.slice (some ⟨rc.blk, rc.shift + (if m = l then off else off + l * P.cellsOf elem), none⟩) (hh - l) (m - l), ?_, .slice hφ (by omega)⟩
              simp only [Instr.sliceAt, Instr.slice, Sem.run_bind, underlying_run hu, Result.andThen_ok, Sem.run_pure, hr, sizeOf_run hi2]
              split <;> simp [add_plain, Nat.add_assoc]
          · simp at hs
        · simp at hs
    · simp at hs
  · simp at hs

/-! ## The cells of what is appended or copied -/
theorem lenV_run {x x' : Value} {n : Nat} (hx : VR φ x x') (hn : lenV x = some n) (w : World) : (Builtin.lenOf x').run P w = .ok n w := by
  cases hx <;> simp [lenV] at hn <;> subst hn <;> simp [Builtin.lenOf]
theorem intCells (φ : Fi) : ∀ (l : List UInt8), LR φ (l.map fun b => .int .u8 b.toNat) (l.map fun b => .int .u8 b.toNat)
  | [] => trivial
  | b :: l => ⟨.int _ _, rfl, intCells φ l⟩
theorem firstC_run (r : R P φ h w) {size n : Nat} {x x' : Value} {cs : List Value} (hx : VR φ x x') (hc : firstC h size n x = some cs) :
    ∃ ds, LR φ cs ds ∧ ∀ w2 : World, w2.heap = w.heap → (Builtin.firstCells size n x').run P w2 = .ok ds.toArray w2 := by
  unfold firstC at hc
  split at hc
  · rename_i b off len cap
    have hz : ∀ a : Addr, n * size = 0 → ∀ w2 : World, (loadCells a (n * size)).run P w2 = .ok #[] w2 := by
      intro a e w2; rw [e]; rfl
    split at hc
    · rename_i e
      simp only [Option.some.injEq] at hc
      subst hc
      refine ⟨[], trivial, fun w2 _ => ?_⟩
      cases hx <;> (simp only [Builtin.firstCells]; exact hz _ e w2)
    · rename_i e
      split at hc
      · rename_i cs0 e0 ro hb
        split at hc
        · rename_i hle
          simp only [Option.some.injEq] at hc
          subst hc
          have key : ∀ rc, φ b = some rc → ∃ ds, LR φ ((cs0.drop off).take (n * size)) ds ∧ ∀ w2 : World, w2.heap = w.heap → (loadCells ⟨rc.blk, rc.shift + off, none⟩ (n * size)).run P w2 = .ok ds.toArray w2 := by
            intro rc hφ
            obtain ⟨C, m, pre, mid, post, ho, _, _, hC, hs, hlr, _⟩ := r.cells hb hφ
            have hlen := hlr.length
            exact ⟨_, (hlr.drop off).take _, fun w2 h2 => loadCells_mid (by rw [h2]; exact ho) hC hs (by omega)⟩
          cases hx with
          | slice hφ _ => exact key _ hφ
          | sliceO hφ _ _ _ => exact key _ hφ
          | sliceE hφ => rw [show n = 0 by omega] at e; simp at e
        · simp at hc
      · simp at hc
  · simp only [Option.some.injEq] at hc
    subst hc
    cases hx
    exact ⟨[], trivial, fun w2 _ => by simp [Builtin.firstCells]⟩
  · simp only [Option.some.injEq] at hc
    subst hc
    cases hx
    refine ⟨_, intCells φ _, fun w2 _ => ?_⟩
    simp [Builtin.firstCells]
    apply Array.ext'
    simp [Array.toList_extract, List.extract_eq_take_drop]
  · simp at hc
end Go.Am
