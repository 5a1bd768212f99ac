/-
  Each operation of the abstract machine is met by the model's: comparisons, arithmetic, maps.
-/
import Derived.Test.YtkggibodlljkcaiGreatAm2g
set_option linter.unusedVariables false
set_option linter.unusedSimpArgs false
namespace Go.Am
variable {P : Program} {φ φ' : Fi} {h h' : AH} {w w' : World}

/-! ## Comparisons -/
theorem litEq_iff : ∀ (a b : Lit), litEq a b = true ↔ a = b := by
  intro a b
  cases a <;> cases b <;> simp [litEq]
theorem litsEq_iff : ∀ (a b : List Lit), litsEq a b = true ↔ a = b
  | [], [] => by simp [litsEq]
  | [], _ :: _ => by simp [litsEq]
  | _ :: _, [] => by simp [litsEq]
  | a :: as, b :: bs => by simp [litsEq, litEq_iff, litsEq_iff as bs]
theorem LR.single {v : Value} {ds : List Value} (h : LR φ [v] ds) : ∃ d, ds = [d] ∧ VR φ v d := by
  cases ds with
  | nil => simp [LR] at h
  | cons d ds =>
    cases ds with
    | nil => exact ⟨d, rfl, h.1⟩
    | cons _ _ => simp [LR] at h
theorem mapM_keep {α : Type} {f g : α → Option (List Lit)} : ∀ (l : List α) {r : List (List Lit)}, (∀ x ∈ l, ∀ y, f x = some y → g x = some y) → l.mapM f = some r → l.mapM g = some r
  | [], r, _, h => by simpa using h
  | x :: l, r, hk, h => by
    rw [List.mapM_cons] at h ⊢
    simp only [bind, Option.bind_eq_some_iff, pure, Option.some.injEq] at h ⊢
    obtain ⟨y, hy, ys, hys, rfl⟩ := h
    exact ⟨y, hk x (by simp) y hy, ys, mapM_keep l (fun z hz => hk z (by simp [hz])) hys, rfl⟩
/-- What cells read as is what their like in the world read as. -/
theorem keyLits_LR : ∀ (D : Nat) (t : TypeId) {cs ds : List Value} {l : List Lit}, LR φ cs ds → P.keyLits D t cs = some l → P.keyLits D t ds = some l
  | 0, _, _, _, _, _, h => by simp [Program.keyLits] at h
  | D + 1, t, cs, ds, l, r, h => by
    unfold Program.keyLits at h ⊢
    split at h
    · obtain ⟨d, rfl, hv⟩ := r.single
      cases hv
      rename_i hu
      simp only [hu] at h ⊢
      exact h
    · obtain ⟨d, rfl, hv⟩ := r.single
      cases hv
      rename_i hu
      simp only [hu] at h ⊢
      exact h
    · obtain ⟨d, rfl, hv⟩ := r.single
      cases hv
      rename_i hu
      simp only [hu] at h ⊢
      exact h
    · rename_i n e hu
      simp only [hu]
      rw [← r.length]
      split at h
      · rename_i hl
        rw [if_pos hl]
        simp only [Option.map_eq_some_iff] at h ⊢
        obtain ⟨as, ha, rfl⟩ := h
        exact ⟨as, mapM_keep _ (fun i _ y hy => keyLits_LR D e ((r.drop _).take _) hy) ha, rfl⟩
      · simp at h
    · rename_i fs hu
      simp only [hu]
      rw [← r.length]
      split at h
      · rename_i hl
        rw [if_pos hl]
        simp only [Option.map_eq_some_iff] at h ⊢
        obtain ⟨as, ha, rfl⟩ := h
        exact ⟨as, mapM_keep _ (fun f _ y hy => keyLits_LR D f.type ((r.drop _).take _) hy) ha, rfl⟩
      · simp at h
    · simp at h
theorem eqGuard_off : ∀ (m : Nat) (t : TypeId) (D : Nat), m ≤ D → P.keyTypeAt m t = true → P.eqGuardType D t = false
  | 0, _, _, _, h => by simp [Program.keyTypeAt] at h
  | m + 1, t, 0, hD, h => by omega
  | m + 1, t, D + 1, hD, h => by
    unfold Program.keyTypeAt at h
    unfold Program.eqGuardType
    split at h
    · rename_i hu; simp [hu]
    · rename_i hu; simp [hu]
    · rename_i hu; simp [hu]
    · rename_i e hu
      simp only [hu]
      exact eqGuard_off m e D (by omega) h
    · rename_i fs hu
      simp only [hu]
      simp only [Bool.and_eq_true, Bool.not_eq_true'] at h
      have hall := h.1.1
      rw [Array.any_eq_false]
      intro i hi
      have hf := Array.all_eq_true.1 hall i hi
      simp only [Bool.and_eq_true] at hf
      simp [eqGuard_off m _ D (by omega) hf.2]
    · simp at h

theorem VR.formed {v v' : Value} (r : VR φ v v') {t : TypeId} (h : v.formed P t = true) : v'.formed P t = true := by
  cases r <;> first | exact h | (simp [Value.formed] at h; done) | skip
  case agg h1 h2 h3 => simpa [Value.formed, h1] using h
theorem keyA_VR {t : TypeId} {v v' : Value} {l : List Lit} (hk : keyA P t v = some l) (r : VR φ v v') : v'.formed P t = true ∧ v.formed P t = true ∧ P.keyLits 40 t v'.cells.toList = some l ∧ P.keyLits 40 t v.cells.toList = some l := by
  unfold keyA at hk
  cases hf : v.formed P t with
  | false => simp [hf] at hk
  | true =>
    simp only [hf, cond_true] at hk
    refine ⟨r.formed hf, rfl, keyLits_LR 40 t (r.cells ?_) hk, hk⟩
    intro xs e
    subst e
    simp [Value.formed] at hf
theorem keyA_eq {t : TypeId} {x x' y y' : Value} {la lb : List Lit} (hk : P.keyTypeAt 40 t = true) (hx : keyA P t x = some la) (hy : keyA P t y = some lb) (rx : VR φ x x') (ry : VR φ y y') (w : World) :
    (Op.equal t x' y').run P w = .ok (litsEq la lb) w := by
  obtain ⟨f1, _, k1, _⟩ := keyA_VR hx rx
  obtain ⟨f2, _, k2, _⟩ := keyA_VR hy ry
  obtain ⟨r, hr, hiff⟩ := run_equalIn_deep (P := P) 9960 40 t hk w 40 40 x' y' la lb f1 f2 k1 k2
  have : r = litsEq la lb := by
    rw [Bool.eq_iff_iff, hiff, litsEq_iff]
  rw [← this]
  exact hr

theorem equalIn_ptr_nil (d : Nat) {t e : TypeId} (hu : P.underlying t = some (.pointer e)) (b : Option Addr) (w : World) : (Op.equalIn (d + 1) t (.pointer none) (.pointer b)).run P w = .ok b.isNone w := by
  simp [Op.equalIn, underlying_run hu]
theorem equalIn_nil_ptr (d : Nat) {t e : TypeId} (hu : P.underlying t = some (.pointer e)) (a : Addr) (w : World) : (Op.equalIn (d + 1) t (.pointer (some a)) (.pointer none)).run P w = .ok false w := by
  simp [Op.equalIn, underlying_run hu]
theorem equalIn_func1 (d : Nat) {t : TypeId} {a b : Array TypeId} {c : Bool} (hu : P.underlying t = some (.func a b c)) (w : World) : (Op.equalIn (d + 1) t .nilFunc .nilFunc).run P w = .ok true w := by
  simp [Op.equalIn, underlying_run hu]
theorem equalIn_func2 (d : Nat) {t : TypeId} {a b : Array TypeId} {c : Bool} (hu : P.underlying t = some (.func a b c)) (f : Fn) (x y : Array Value) (w : World) : (Op.equalIn (d + 1) t (.func f x y) .nilFunc).run P w = .ok false w := by
  simp [Op.equalIn, underlying_run hu]
theorem equalIn_func3 (d : Nat) {t : TypeId} {a b : Array TypeId} {c : Bool} (hu : P.underlying t = some (.func a b c)) (f : Fn) (x y : Array Value) (w : World) : (Op.equalIn (d + 1) t .nilFunc (.func f x y)).run P w = .ok false w := by
  simp [Op.equalIn, underlying_run hu]
theorem equalIn_bool (d : Nat) {t : TypeId} (hu : P.underlying t = some .bool) (a b : Bool) (w : World) : (Op.equalIn (d + 1) t (.bool a) (.bool b)).run P w = .ok (a == b) w := by
  simp [Op.equalIn, underlying_run hu]

theorem equalIn_slice1 (d : Nat) {t e : TypeId} (hu : P.underlying t = some (.slice e)) (a : Option Addr) (n c n' c' : Nat) (w : World) : (Op.equalIn (d + 1) t (.slice a n c) (.slice none n' c')).run P w = .ok a.isNone w := by
  cases a <;> simp [Op.equalIn, underlying_run hu]
theorem equalIn_slice2 (d : Nat) {t e : TypeId} (hu : P.underlying t = some (.slice e)) (a : Addr) (n c n' c' : Nat) (w : World) : (Op.equalIn (d + 1) t (.slice none n c) (.slice (some a) n' c')).run P w = .ok false w := by
  simp [Op.equalIn, underlying_run hu]
theorem equalIn_map1 (d : Nat) {t k e : TypeId} (hu : P.underlying t = some (.map k e)) (a : Option Nat) (w : World) : (Op.equalIn (d + 1) t (.map a) (.map none)).run P w = .ok a.isNone w := by
  cases a <;> simp [Op.equalIn, underlying_run hu]
theorem equalIn_map2 (d : Nat) {t k e : TypeId} (hu : P.underlying t = some (.map k e)) (a : Nat) (w : World) : (Op.equalIn (d + 1) t (.map none) (.map (some a))).run P w = .ok false w := by
  simp [Op.equalIn, underlying_run hu]
theorem guard_slice (op : BinOp) (t : TypeId) (xo yo : Operand) (a b : Option Addr) (n c n' c' : Nat) (w : World) : (eqGuard op t xo yo (.slice a n c) (.slice b n' c')).run P w = .ok () w := by
  cases op <;> rfl
theorem guard_map (op : BinOp) (t : TypeId) (xo yo : Operand) (a b : Option Nat) (w : World) : (eqGuard op t xo yo (.map a) (.map b)).run P w = .ok () w := by
  cases op <;> rfl

theorem eq_sound (G : Good P) {t : TypeId} {x x' y y' : Value} {b : Bool} (hs : aEq P t x y = some b) (hx : VR φ x x') (hy : VR φ y y') (xo yo : Operand) (op : BinOp) (w : World) :
    (eqGuard op t xo yo x' y').run P w = .ok () w ∧ (Op.equal t x' y').run P w = .ok b w ∧ (∀ k n, x' ≠ .int k n) ∧ (∀ k n, x' ≠ .float k n) ∧ (∀ k n m, x' ≠ .complex k n m) ∧ (∀ s, x' ≠ .string s) := by
  unfold aEq at hs
  split at hs
  · rename_i a c
    split at hs
    · rename_i hu
      simp only [Option.some.injEq] at hs
      subst hs
      cases hx; cases hy
      exact ⟨by rw [eqGuard_at_bool]; rfl, equalIn_bool 9999 hu a c w, by simp, by simp, by simp, by simp⟩
    · simp at hs
  · rename_i xs ys
    split at hs
    · rename_i la lb hk ha hb
      simp only [Option.some.injEq] at hs
      subst hs
      have heq := keyA_eq hk ha hb hx hy w
      obtain ⟨xs', rfl, hlx⟩ := hx.toLR
      obtain ⟨ys', rfl, hly⟩ := hy.toLR
      have hg := eqGuard_off 40 t P.depth (by have := G.depth; omega) hk
      exact ⟨run_eqGuard_agg w op t xo yo xs' ys' hg, heq, by simp, by simp, by simp, by simp⟩
    · simp at hs
  · split at hs
    · rename_i hu
      simp only [Option.some.injEq] at hs
      subst hs
      cases hx
      cases hy <;> exact ⟨by rw [eqGuard_at_pointer]; rfl, equalIn_ptr_nil 9999 hu _ w, by simp, by simp, by simp, by simp⟩
    · simp at hs
  · split at hs
    · rename_i hu
      simp only [Option.some.injEq] at hs
      subst hs
      cases hx
      cases hy
      exact ⟨by rw [eqGuard_at_pointer]; rfl, equalIn_nil_ptr 9999 hu _ w, by simp, by simp, by simp, by simp⟩
    · simp at hs
  · split at hs
    · rename_i hu
      simp only [Option.some.injEq] at hs
      subst hs
      cases hy
      cases hx <;> exact ⟨guard_slice .., equalIn_slice1 9999 hu _ _ _ _ _ w, by simp, by simp, by simp, by simp⟩
    · simp at hs
  · split at hs
    · rename_i hu
      simp only [Option.some.injEq] at hs
      subst hs
      cases hx
      cases hy <;> exact ⟨guard_slice .., equalIn_slice2 9999 hu _ _ _ _ _ w, by simp, by simp, by simp, by simp⟩
    · simp at hs
  · split at hs
    · rename_i hu
      simp only [Option.some.injEq] at hs
      subst hs
      cases hy
      cases hx <;> exact ⟨guard_map .., equalIn_map1 9999 hu _ w, by simp, by simp, by simp, by simp⟩
    · simp at hs
  · split at hs
    · rename_i hu
      simp only [Option.some.injEq] at hs
      subst hs
      cases hx
      cases hy
      exact ⟨guard_map .., equalIn_map2 9999 hu _ w, by simp, by simp, by simp, by simp⟩
    · simp at hs
  · split at hs
    · rename_i hu
      simp only [Option.some.injEq] at hs
      subst hs
      cases hx
      cases hy
      exact ⟨by rw [eqGuard_at_nilFunc]; rfl, equalIn_func1 9999 hu w, by simp, by simp, by simp, by simp⟩
    · simp at hs
  · split at hs
    · rename_i hu
      simp only [Option.some.injEq] at hs
      subst hs
      cases hx
      cases hy
      exact ⟨by rw [eqGuard_at_func]; rfl, equalIn_func2 9999 hu _ _ _ w, by simp, by simp, by simp, by simp⟩
    · simp at hs
  · split at hs
    · rename_i hu
      simp only [Option.some.injEq] at hs
      subst hs
      cases hx
      cases hy
      exact ⟨by rw [eqGuard_at_nilFunc]; rfl, equalIn_func3 9999 hu _ _ _ w, by simp, by simp, by simp, by simp⟩
    · simp at hs
  · simp at hs

/-! ## Arithmetic -/
theorem aInt_run {op : BinOp} {k : IntKind} {a b : Int} {v : Value} (hs : aInt op k a b = some v) (t : TypeId) (w : World) : (binOp op t (.int k a) (.int k b)).run P w = .ok v w := by
  cases op <;> simp only [aInt, Option.some.injEq] at hs <;>
    first
    | (subst hs; simp [binOp, Op.intArith, Op.intBits, Op.intCmp]; done)
    | (simp at hs; done)
    | (by_cases h0 : b = 0; (simp [h0] at hs); (simp only [h0, if_false, Option.some.injEq] at hs; subst hs; simp [binOp, Op.intDiv, h0]))
theorem aInt_VR {φ : Fi} {op : BinOp} {k : IntKind} {a b : Int} {v : Value} (hs : aInt op k a b = some v) : VR φ v v := by
  cases op <;> simp only [aInt, Option.some.injEq] at hs <;>
    first
    | (subst hs; exact .int _ _)
    | (subst hs; exact .bool _)
    | (simp at hs; done)
    | (by_cases h0 : b = 0; (simp [h0] at hs); (simp only [h0, if_false, Option.some.injEq] at hs; subst hs; exact .int _ _))
theorem un_sound {op : UnOp} {x x' u : Value} (hs : aUn op x = some u) (hx : VR φ x x') (w : World) : ∃ u', (Op.unary op x').run P w = .ok u' w ∧ VR φ u u' := by
  unfold aUn at hs
  split at hs
  · simp only [Option.some.injEq] at hs
    subst hs
    cases hx
    exact ⟨_, by simp [Op.unary, Op.intArith], .int _ _⟩
  · simp only [Option.some.injEq] at hs
    subst hs
    cases hx
    exact ⟨_, by simp [Op.unary, Op.intBits], .int _ _⟩
  · simp only [Option.some.injEq] at hs
    subst hs
    cases hx
    exact ⟨_, by simp [Op.unary], .bool _⟩
  · simp at hs
theorem bin_sound (G : Good P) {op : BinOp} {t : TypeId} {x x' y y' u : Value} (hs : aBin P op t x y = some u) (hx : VR φ x x') (hy : VR φ y y') (xo yo : Operand) (w : World) :
    ∃ u', ((do eqGuard op t xo yo x' y'; binOp op t x' y' : Sem Value)).run P w = .ok u' w ∧ VR φ u u' := by
  unfold aBin at hs
  split at hs
  · rename_i k a k' b
    cases hx; cases hy
    split at hs
    · unfold aShift at hs
      split at hs
      · simp at hs
      · rename_i h0
        simp only [Option.some.injEq] at hs
        subst hs
        exact ⟨_, by rw [eqGuard_at_int]; simp [binOp, Op.shift, h0], .int _ _⟩
    · unfold aShift at hs
      split at hs
      · simp at hs
      · rename_i h0
        simp only [Option.some.injEq] at hs
        subst hs
        exact ⟨_, by rw [eqGuard_at_int]; simp [binOp, Op.shift, h0], .int _ _⟩
    · split at hs
      · rename_i hk
        subst hk
        refine ⟨u, ?_, aInt_VR hs⟩
        rw [eqGuard_at_int]
        simpa using aInt_run hs t w
      · simp at hs
  · rename_i a b
    cases hx; cases hy
    unfold aStr at hs
    split at hs
    · split at hs
      · rename_i hle
        simp only [Option.some.injEq] at hs
        subst hs
        have : ¬ (9223372036854775807 < (a.size : Int) + b.size) := by omega
        exact ⟨_, by rw [eqGuard_at_string]; simp [binOp, Op.stringOp, this], .string _⟩
      · simp at hs
    · simp only [Option.some.injEq] at hs
      subst hs
      exact ⟨_, by rw [eqGuard_at_string]; simp [binOp, Op.stringOp, beq_toListBytes], .bool _⟩
    · simp only [Option.some.injEq] at hs
      subst hs
      exact ⟨_, by rw [eqGuard_at_string]; simp [binOp, Op.stringOp, beq_toListBytes], .bool _⟩
    · simp only [Option.some.injEq] at hs
      subst hs
      exact ⟨_, by rw [eqGuard_at_string]; simp [binOp, Op.stringOp], .bool _⟩
    · simp at hs
  · split at hs
    · cases he : aEq P t x y with
      | none => simp [he] at hs
      | some b =>
        simp only [he, Option.map_some, Option.some.injEq] at hs
        subst hs
        obtain ⟨h1, h2, h3, h4, h5, h6⟩ := eq_sound G he hx hy xo yo .eql w
        refine ⟨.bool b, ?_, .bool _⟩
        have : binOp .eql t x' y' = (do pure (.bool (← Op.equal t x' y'))) := by
          unfold binOp
          split <;> first | rfl | (exact absurd rfl (h3 _ _)) | (exact absurd rfl (h4 _ _)) | (exact absurd rfl (h5 _ _ _)) | (exact absurd rfl (h6 _)) | (rename_i q; cases q; done) | (simp_all; done)
        simp [h1, this, h2]
    · cases he : aEq P t x y with
      | none => simp [he] at hs
      | some b =>
        simp only [he, Option.map_some, Option.some.injEq] at hs
        subst hs
        obtain ⟨h1, h2, h3, h4, h5, h6⟩ := eq_sound G he hx hy xo yo .neq w
        refine ⟨.bool (!b), ?_, .bool _⟩
        have : binOp .neq t x' y' = (do pure (.bool (!(← Op.equal t x' y')))) := by
          unfold binOp
          split <;> first | rfl | (exact absurd rfl (h3 _ _)) | (exact absurd rfl (h4 _ _)) | (exact absurd rfl (h5 _ _ _)) | (exact absurd rfl (h6 _)) | (rename_i q; cases q; done) | (simp_all; done)
        simp [h1, this, h2]
    · simp at hs
end Go.Am
