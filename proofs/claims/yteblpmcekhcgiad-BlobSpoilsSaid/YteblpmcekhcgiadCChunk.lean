/-
  PARTS OF A SLICE, one after the other; so many sectors are taken.
-/
import Derived.Test.YteblpmcekhcgiadCPool
import Derived.Test.YteblpmcekhcgiadCPutAt
import Derived.Test.YteblpmcekhcgiadVBlob
set_option linter.unusedVariables false
set_option linter.unusedSimpArgs false
set_option maxRecDepth 100000
namespace Go.Am
open Go.Proofs
theorem EchunkB : ElemOk Try.prog 22 5 1 1 := ElemOk_of (by kernel_rfl)
theorem EchunkP : ElemOk Try.prog 39 36 3 24 := ElemOk_of (by kernel_rfl)
theorem eIntC : ElemOk Try.prog 27 3 1 8 := ElemOk_of (by kernel_rfl)
theorem cut_three {P : Program} {h : AH} {st elem : TypeId} {sz by' : Nat} (E : ElemOk P st elem sz by') {b off n c lo hi : Nat} (hsz : P.cellsOf elem = sz) (hc : CutOk P h elem b n c) (h1 : lo < hi) (h2 : hi ≤ n) :
    aSlice P h st (.slice (some ⟨b, off, none⟩) n c) (some (.int .i64 (lo : Int))) (some (.int .i64 (hi : Int))) (some (.int .i64 (hi : Int))) = some (.slice (some ⟨b, off + lo * sz, none⟩) (hi - lo) (hi - lo)) := by
  obtain ⟨hu, i, z, hi', hz, hzs, hpos, rfl, rfl⟩ := E
  unfold aSlice
  rw [hu]
  simp only [hi', Option.isSome_some, if_true]
  rcases hc with ⟨q1, q2⟩ | ⟨rfl, cs, e, ro, hg, he⟩
  · rw [if_neg (by omega), if_pos q2]
    unfold aBounds
    simp only [boundNat, if_pos (show hi ≤ c by omega), if_pos (Nat.le_refl hi), if_pos (Nat.le_of_lt h1)]
    rw [if_neg (by omega), hsz]
  · rw [if_pos rfl]
    unfold aBounds
    simp only [boundNat, if_pos h2, if_pos (Nat.le_refl hi), if_pos (Nat.le_of_lt h1), hg]
    rw [if_pos (by omega), if_neg (by omega), hsz]
section
variable {K : Xs} {h : AH}
theorem chunkB (hk : K 39 = none) {ya pb0 pb1 b off n c m : Nat} (hm : 1 ≤ m ∧ m ≤ 1000) (hn : n ≤ 1000000) {JJ : Nat → AH → Prop} {DD : AH → Prop} {BB : AH → AH → Prop}
    (hs : ∀ i h1, JJ i h1 → (∃ t ro, h1.get pb0 = some (.cells [.slice (some ⟨b, off, none⟩) n c] t ro)) ∧ (∃ t ro, h1.get pb1 = some (.cells [.int .i64 (m : Nat)] t ro)) ∧ CutOk Try.prog h1 5 b n c)
    (hr : ∀ (k : Nat) (h1 : AH), k < (n + m - 1) / m → JJ k h1 → Wy Try.prog K ya [.slice (some ⟨b, off + k * m * 1, none⟩) (min m (n - k * m)) (min m (n - k * m))] h1 fun v h2 => ((v = .bool true ∧ JJ (k + 1) h2) ∨ (v = .bool false ∧ DD h2)) ∧ BB h1 h2)
    (h0 : JJ 0 h) : Wf Try.prog K 39 [Value.func (Fn.yield ya) #[] #[], .pointer (some ⟨pb0, 0, none⟩), .pointer (some ⟨pb1, 0, none⟩)] h fun _ h' => JJ ((n + m - 1) / m) h' ∨ DD h' := by
  have hdiv : ∀ j, j < (n + m - 1) / m ↔ j * m < n := fun j => by
    rw [Nat.lt_div_iff_mul_lt (by omega)]
    constructor
    · intro z; omega
    · intro z; omega
  refine vc_slices_Chunk___byte_byte__1 hk _ _ _ h _ ⟨fun i k g => ∃ j : Nat, i = ((j * m : Nat) : Int) ∧ j ≤ (n + m - 1) / m ∧ (n + m - 1) / m - j = k ∧ JJ j g, ⟨_, 0, by simp, Nat.zero_le _, rfl, h0⟩, ?_⟩
  rintro k1 g2 i4 ⟨j, rfl, hj, rfl, J2⟩
  obtain ⟨⟨t0, r0, c0⟩, ⟨t1, r1, c1⟩, C2⟩ := hs j g2 J2
  refine derefP_at ⟨_, _, _, ld1_at c0 rfl, fun z => derefP_at ⟨_, ld1_at c1 rfl, derefP_at ⟨_, _, _, ld1_at c0 rfl, ?_⟩⟩, fun z => ?_⟩
  · have hjm : j * m < n := by omega
    have hjN := (hdiv j).2 hjm
    obtain ⟨off2, c2, k2, -, -⟩ := cut_lo (EchunkB) (by simp) (h := g2) (b := b) (off := off) (lo := j * m) C2 (by omega)
    refine ⟨_, _, _, k2, fun i21 e21 => derefP_at ⟨_, _, _, ld1_at c0 rfl, fun i27 e27 i28 e28 => ?_⟩⟩
    have e21 : i21 = ((min m (n - j * m) : Nat) : Int) := by rw [e21]; split <;> omega
    subst e21
    have e27 := i64w e27 (by omega) (by omega)
    have e28 := i64w e28 (by omega) (by omega)
    have e27 : i27 = ((j * m + min m (n - j * m) : Nat) : Int) := by omega
    have e28 : i28 = ((j * m + min m (n - j * m) : Nat) : Int) := by omega
    subst e27
    subst e28
    have k3 := cut_three (EchunkB) (by simp) (h := g2) (b := b) (off := off) (lo := j * m) (hi := j * m + min m (n - j * m)) C2 (by omega) (by omega)
    rw [show j * m + min m (n - j * m) - j * m = min m (n - j * m) by omega] at k3
    refine ⟨_, _, _, k3, (hr j g2 hjN J2).mono' ?_⟩
    rintro v g33 ⟨⟨rfl, J33⟩ | ⟨rfl, D33⟩, -⟩
    · obtain ⟨-, ⟨t3, r3, c3⟩, -⟩ := hs (j + 1) g33 J33
      refine ⟨true, rfl, ?_⟩
      simp only [Bool.not_true, cond_false]
      refine derefP_at ⟨_, ld1_at c3 rfl, fun i38 e38 => ?_⟩
      have e38 := i64w e38 (by omega) (by omega)
      exact ⟨_, by omega, j + 1, by rw [e38, Nat.add_mul]; omega, hjN, rfl, J33⟩
    · exact ⟨false, rfl, .inr D33⟩
  · have hjN : ¬ j < (n + m - 1) / m := fun y => z (by have := (hdiv j).1 y; omega)
    obtain rfl : j = (n + m - 1) / m := by omega
    exact .inl J2
theorem chunkP (hk : K 43 = none) {ya pb0 pb1 b off n c m : Nat} (hm : 1 ≤ m ∧ m ≤ 1000) (hn : n ≤ 1000000) {JJ : Nat → AH → Prop} {DD : AH → Prop} {BB : AH → AH → Prop}
    (hs : ∀ i h1, JJ i h1 → (∃ t ro, h1.get pb0 = some (.cells [.slice (some ⟨b, off, none⟩) n c] t ro)) ∧ (∃ t ro, h1.get pb1 = some (.cells [.int .i64 (m : Nat)] t ro)) ∧ CutOk Try.prog h1 36 b n c)
    (hr : ∀ (k : Nat) (h1 : AH), k < (n + m - 1) / m → JJ k h1 → Wy Try.prog K ya [.slice (some ⟨b, off + k * m * 3, none⟩) (min m (n - k * m)) (min m (n - k * m))] h1 fun v h2 => ((v = .bool true ∧ JJ (k + 1) h2) ∨ (v = .bool false ∧ DD h2)) ∧ BB h1 h2)
    (h0 : JJ 0 h) : Wf Try.prog K 43 [Value.func (Fn.yield ya) #[] #[], .pointer (some ⟨pb0, 0, none⟩), .pointer (some ⟨pb1, 0, none⟩)] h fun _ h' => JJ ((n + m - 1) / m) h' ∨ DD h' := by
  have hdiv : ∀ j, j < (n + m - 1) / m ↔ j * m < n := fun j => by
    rw [Nat.lt_div_iff_mul_lt (by omega)]
    constructor
    · intro z; omega
    · intro z; omega
  refine vc_api_Ptr__1 hk _ _ _ h _ ⟨fun i k g => ∃ j : Nat, i = ((j * m : Nat) : Int) ∧ j ≤ (n + m - 1) / m ∧ (n + m - 1) / m - j = k ∧ JJ j g, ⟨_, 0, by simp, Nat.zero_le _, rfl, h0⟩, ?_⟩
  rintro k1 g2 i4 ⟨j, rfl, hj, rfl, J2⟩
  obtain ⟨⟨t0, r0, c0⟩, ⟨t1, r1, c1⟩, C2⟩ := hs j g2 J2
  refine derefP_at ⟨_, _, _, ld1_at c0 rfl, fun z => derefP_at ⟨_, ld1_at c1 rfl, derefP_at ⟨_, _, _, ld1_at c0 rfl, ?_⟩⟩, fun z => ?_⟩
  · have hjm : j * m < n := by omega
    have hjN := (hdiv j).2 hjm
    obtain ⟨off2, c2, k2, -, -⟩ := cut_lo (EchunkP) (by simp) (h := g2) (b := b) (off := off) (lo := j * m) C2 (by omega)
    refine ⟨_, _, _, k2, fun i21 e21 => derefP_at ⟨_, _, _, ld1_at c0 rfl, fun i27 e27 i28 e28 => ?_⟩⟩
    have e21 : i21 = ((min m (n - j * m) : Nat) : Int) := by rw [e21]; split <;> omega
    subst e21
    have e27 := i64w e27 (by omega) (by omega)
    have e28 := i64w e28 (by omega) (by omega)
    have e27 : i27 = ((j * m + min m (n - j * m) : Nat) : Int) := by omega
    have e28 : i28 = ((j * m + min m (n - j * m) : Nat) : Int) := by omega
    subst e27
    subst e28
    have k3 := cut_three (EchunkP) (by simp) (h := g2) (b := b) (off := off) (lo := j * m) (hi := j * m + min m (n - j * m)) C2 (by omega) (by omega)
    rw [show j * m + min m (n - j * m) - j * m = min m (n - j * m) by omega] at k3
    refine ⟨_, _, _, k3, (hr j g2 hjN J2).mono' ?_⟩
    rintro v g33 ⟨⟨rfl, J33⟩ | ⟨rfl, D33⟩, -⟩
    · obtain ⟨-, ⟨t3, r3, c3⟩, -⟩ := hs (j + 1) g33 J33
      refine ⟨true, rfl, ?_⟩
      simp only [Bool.not_true, cond_false]
      refine derefP_at ⟨_, ld1_at c3 rfl, fun i38 e38 => ?_⟩
      have e38 := i64w e38 (by omega) (by omega)
      exact ⟨_, by omega, j + 1, by rw [e38, Nat.add_mul]; omega, hjN, rfl, J33⟩
    · exact ⟨false, rfl, .inr D33⟩
  · have hjN : ¬ j < (n + m - 1) / m := fun y => z (by have := (hdiv j).1 y; omega)
    obtain rfl : j = (n + m - 1) / m := by omega
    exact .inl J2
variable {p : Nat} {F : List Nat} {d m : Nat} {W : Nat} {nw : List (List Nat)} {M : List Nat} {st : Nat} {ba : Int}
def takeM (M : List Nat) (A : List Nat) : List Nat := A.foldl (fun M a => M.set a 2) M
theorem takeM_snoc (M A : List Nat) (a : Nat) : takeM M (A ++ [a]) = (takeM M A).set a 2 := by simp [takeM]
theorem takeM_keep : ∀ (A M : List Nat) (x : Nat), M[x]? = some 2 → (takeM M A)[x]? = some 2
  | [], M, x, h => h
  | a :: A, M, x, h => by
    refine takeM_keep A (M.set a 2) x ?_
    rw [List.getElem?_set]
    by_cases e : a = x
    · rw [if_pos e, if_pos (by rw [e]; exact (List.getElem?_eq_some_iff.1 h).1)]
    · rw [if_neg e]; exact h
theorem poolMany (kM : K 10 = none) (kC : K 21 = none) (kA : K 22 = none) (kI : K 32 = none) (kS : K 31 = none) (B : PO h p F d m W nw M st ba) (hn : nw.length ≤ 1024) {n : Nat} (hc : n ≤ M.count 1) (hn2 : n ≤ 1000) :
    Wf Try.prog K 10 [.pointer (some ⟨m, 0, none⟩), .int .i64 (n : Nat)] h fun v h' => ∃ pp c A, v = .tuple #[.slice pp n c, .int .i64 0] ∧ Grow h.next h' 3 1 pp n c (natC .i64 A) ∧ A.length = n ∧ A.Nodup ∧ (∀ a ∈ A, (takeM M A)[a]? = some 2 ∧ a < nw.length ∧ 4 ≤ a) ∧ PO h' p F d m W nw (takeM M A) st ba ∧ Fr F h h' F := by
  obtain ⟨Fd0, B0⟩ := B
  refine vc_slab_Map_Many kM _ _ h _ ((mapCount kC B0.map).mono ?_)
  rintro _ _ ⟨rfl, rfl⟩
  refine ⟨_, rfl, fun z => absurd z (by omega), fun _ => ⟨fun pp k c j g => ∃ A : List Nat, n - k = j ∧ k ≤ n ∧ A.length = k ∧ A.Nodup ∧ (∀ a ∈ A, M[a]? = some 1 ∧ (takeM M A)[a]? = some 2 ∧ a < nw.length ∧ 4 ≤ a) ∧ (takeM M A).count 1 + k = M.count 1 ∧ PO g p F d m W nw (takeM M A) st ba ∧ Fr F h g F ∧ Grow h.next g 3 1 pp k c (natC .i64 A), ⟨_, [], rfl, Nat.zero_le _, rfl, List.nodup_nil, (fun a ha => by cases ha), rfl, ⟨Fd0, B0⟩, Fr.refl _ _, Grow.nil _ _ _ _⟩, ?_⟩⟩
  rintro k4 g5 p7 n8 c9 ⟨A, rfl, hk, hA, hnd, hall, hcnt, B5, f5, G5⟩
  refine ⟨fun z => ?_, fun z => ?_⟩
  · obtain ⟨Fd, P5⟩ := B5
    have hF := P5.mem_lt
    refine (mapAlloc kA kI kS P5.map).mono ?_
    rintro v g11 (⟨i, hi, hMi, rfl, hm11, nr11⟩ | ⟨hno, rfl, rfl⟩)
    rotate_left
    · exact absurd (List.count_pos_iff.1 (show 0 < (takeM M A).count 1 by omega)) hno
    obtain ⟨P11, f11⟩ := P5.onMap hm11 nr11 (within_set P5.within hMi (by decide))
    refine ⟨_, _, rfl, fun _ g14 e14 => ?_, fun z => absurd rfl z⟩
    have o14 := old_of_alloc e14
    have hmF : m ∈ F := by rw [P5.F_eq]; simp
    have hmlt : m < h.next := (by
      have := B0.mem_lt m hmF
      exact this)
    have G11 : Grow h.next g11 3 1 p7 n8 c9 (natC .i64 A) := G5.fr f11 B0.mem_lt
    obtain ⟨p15, c17, g18, k18, G18, ob18, -, -⟩ := G11.push eIntC (by have := f5.1; have := f11.1; omega) (m := 1) e14 rfl (by unfold roomMax; omega) (by omega)
    have hMi1 : M[i]? = some 1 := by
      have key : ∀ (A M : List Nat), (takeM M A)[i]? = some 1 → M[i]? = some 1 := by
        intro A
        induction A with
        | nil => exact fun M h => h
        | cons a A ih =>
          intro M h
          have h1 := ih (M.set a 2) h
          rw [List.getElem?_set] at h1
          split at h1
          · split at h1
            · cases h1
            · cases h1
          · exact h1
      exact key A M hMi
    have hiA : i ∉ A := fun q => by rw [(hall i q).2.1] at hMi; cases hMi
    have hwi := P5.within i 1 hMi (by decide)
    have hlen : i < (takeM M A).length := (List.getElem?_eq_some_iff.1 hMi).1
    refine ⟨p15, _, c17, g18, k18, n - (n8 + 1), by omega, A ++ [i], rfl, by omega, by simp [hA], ?_, fun a ha => ?_, ?_, ?_, ?_, by rw [natC_app]; exact G18⟩
    · rw [List.nodup_append]
      exact ⟨hnd, by simp, fun a ha b hb => by rw [List.mem_singleton.1 hb]; exact fun e => hiA (by rw [← e]; exact ha)⟩
    · rw [takeM_snoc]
      rcases List.mem_append.1 ha with ha | ha
      · obtain ⟨q1, q2, q3, q4⟩ := hall a ha
        refine ⟨q1, ?_, q3, q4⟩
        rw [List.getElem?_set, if_neg (fun e => hiA (by rw [e]; exact ha))]
        exact q2
      · rw [List.mem_singleton.1 ha]
        exact ⟨hMi1, by rw [List.getElem?_set, if_pos rfl, if_pos hlen], hwi.2, hwi.1⟩
    · rw [takeM_snoc]
      have h2 := count_setN hMi 1 (b := 2)
      have h3 := count_pos hMi
      simp at h2
      omega
    · rw [takeM_snoc]
      exact ⟨Fd, (P11.keep ob18.1 fun c hc => ob18.2 c (B0.mem_lt c hc))⟩
    · have f := f5.trans f11
      exact ⟨Nat.le_trans f.1 ob18.1, fun c hc hnF => by rw [ob18.2 c hc, f.2.1 c hc hnF], fun c hc => .inl hc⟩
  · have hkn : n8 = n := by omega
    subst hkn
    exact ⟨p7, c9, A, rfl, G5, hA, hnd, fun a ha => (hall a ha).2, B5, f5⟩
end
end Go.Am
