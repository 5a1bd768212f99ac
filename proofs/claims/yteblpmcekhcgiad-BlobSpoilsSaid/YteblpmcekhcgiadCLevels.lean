/-
  HOW MANY SECTORS A TEXT NEEDS: the levels of a text, in this program.
-/
import Derived.Test.YteblpmcekhcgiadAmH
import Derived.Test.YteblpmcekhcgiadVBlob
set_option linter.unusedVariables false
set_option linter.unusedSimpArgs false
set_option maxRecDepth 100000
namespace Go.Am
open Go.Proofs
def ups (k : Nat) : List Nat := if 1 < k then ((k + 7) / 8) :: ups ((k + 7) / 8) else []
termination_by k
decreasing_by omega
def levelsL (n : Int) : List Nat := if n < 1 ∨ 65535 < n then [] else ((n.toNat + 127) / 128) :: ups ((n.toNat + 127) / 128)
def needL (n : Int) : Nat := (levelsL n).sum
theorem ups_step {k : Nat} (h : 1 < k) : ups k = ((k + 7) / 8) :: ups ((k + 7) / 8) := by
  conv => lhs; unfold ups
  rw [if_pos h]
theorem ups_end {k : Nat} (h : ¬ 1 < k) : ups k = [] := by
  conv => lhs; unfold ups
  rw [if_neg h]
section
variable {K : Xs}
theorem upSpec (hk : K 30 = none) (a b : Nat) (ha : a ≤ 100000) (hb : 1 ≤ b ∧ b ≤ 1000) (h : AH) :
    Wf Try.prog K 30 [.int .i64 a, .int .i64 b] h fun v h' => v = .int .i64 ((a + b - 1) / b : Nat) ∧ h = h' := by
  refine vc_blob_up_int_ hk _ _ h _ fun i0 e0 i1 e1 => ?_
  have e0 := i64w e0 (by omega) (by omega)
  subst e0
  have e1 := i64w e1 (by omega) (by omega)
  subst e1
  refine ⟨by omega, fun i2 e2 => ?_⟩
  have hq : Int.tdiv ((a : Int) + b - 1) b = (((a + b - 1) / b : Nat) : Int) := by
    rw [Int.tdiv_eq_ediv_of_nonneg (by omega)]
    rw [Int.natCast_ediv]
    congr 1
    omega
  have hle : (a + b - 1) / b ≤ a + b := Nat.le_trans (Nat.div_le_self _ _) (by omega)
  rw [hq] at e2
  obtain ⟨q, hq2⟩ : ∃ q, q = (a + b - 1) / b := ⟨_, rfl⟩
  rw [← hq2] at e2 hle ⊢
  have e2 := i64w e2 (by omega) (by omega)
  exact ⟨by rw [e2], rfl⟩
theorem levelsSpec (hk : K 17 = none) (hk2 : K 30 = none) (n : Int) (h : AH) :
    Wf Try.prog K 17 [.int .i64 n] h fun v h' => ∃ p m c, v = .slice p m c ∧ Grow h.next h' 3 1 p m c (natC .i64 (levelsL n)) ∧ Old h h' := by
  refine vc_blob_levels hk _ h _ ⟨fun h1 => ?_, fun h1 => ⟨fun h2 => ?_, fun h2 => ?_⟩⟩
  · exact ⟨_, _, _, rfl, by unfold levelsL; rw [if_pos (.inl h1)]; exact Grow.nil _ _ _ _, Old.refl _⟩
  · exact ⟨_, _, _, rfl, by unfold levelsL; rw [if_pos (.inr h2)]; exact Grow.nil _ _ _ _, Old.refl _⟩
  · obtain ⟨N, rfl⟩ : ∃ N : Nat, n = N := ⟨n.toNat, by omega⟩
    refine (upSpec hk2 N 128 (by omega) (by omega) h).mono ?_
    rintro _ _ ⟨rfl, rfl⟩
    refine ⟨_, rfl, fun h3 e3 => ?_⟩
    have hL : levelsL N = ((N + 127) / 128) :: ups ((N + 127) / 128) := by
      unfold levelsL
      rw [if_neg (by omega), Int.toNat_natCast]
    refine ⟨fun i p m c k h' => ∃ (s : Nat) (done : List Nat), i = s ∧ s = k ∧ s + done.length ≤ 1000 ∧ Grow h.next h' 3 1 p m c (natC .i64 done) ∧ Old h h' ∧ levelsL N = done ++ ups s, ⟨(N + 128 - 1) / 128, (N + 128 - 1) / 128, [(N + 128 - 1) / 128], rfl, rfl, ?_, ?_, Old.alloc (Old.refl _) e3, ?_⟩, ?_⟩
    · simp; omega
    · subst e3
      exact ⟨rfl, .inr ⟨h.next, rfl, Nat.le_refl _, Nat.lt_succ_self _, get_alloc_next _ _, .inr rfl⟩⟩
    · rw [hL]; rfl
    · rintro k h' i p m c ⟨s, done, rfl, rfl, hs, hg, ho, hl⟩
      refine ⟨fun hi => ?_, fun hi => ⟨_, _, _, rfl, ?_, ho⟩⟩
      · refine (upSpec hk2 s 8 (by omega) (by omega) h').mono ?_
        rintro _ _ ⟨rfl, rfl⟩
        refine ⟨_, rfl, fun h4 e4 => ?_⟩
        have hm : m = done.length := by have := hg.1; rw [natC_len] at this; omega
        obtain ⟨p', c', h5, ha, hg2, hob, -⟩ := hg.push (ElemOk_of (st := 27) (by' := 8) (by kernel_rfl)) ho.1 (ns := natC .i64 [(s + 8 - 1) / 8]) (m := 1) e4 rfl (by unfold roomMax; omega) (by omega)
        refine ⟨p', m + 1, c', h5, ha, (s + 8 - 1) / 8, by omega, (s + 8 - 1) / 8, done ++ [(s + 8 - 1) / 8], rfl, rfl, by simp; omega, by rw [natC_app]; exact hg2, ?_, ?_⟩
        · exact ((ho.toB (Nat.le_refl _)).trans hob).toOld
        · rw [hl, ups_step (by omega)]; simp
      · rw [hl, ups_end (by omega), List.append_nil]; exact hg
theorem ups_sum (k : Nat) : (ups k).sum ≤ k := by
  induction k using Nat.strongRecOn with
  | ind k ih =>
    by_cases h : 1 < k
    · rw [ups_step h, List.sum_cons]
      have := ih ((k + 7) / 8) (by omega)
      by_cases h2 : k ≤ 8
      · have : (k + 7) / 8 = 1 := by omega
        rw [this, ups_end (by omega)]
        simp; omega
      · omega
    · rw [ups_end h]; simp
theorem levels_sum (n : Int) : (levelsL n).sum ≤ 2000 := by
  unfold levelsL
  split
  · simp
  · rw [List.sum_cons]
    have := ups_sum ((n.toNat + 127) / 128)
    omega
theorem ups_len (k : Nat) : (ups k).length ≤ k := by
  induction k using Nat.strongRecOn with
  | ind k ih =>
    by_cases h : 1 < k
    · rw [ups_step h, List.length_cons]
      have := ih ((k + 7) / 8) (by omega)
      omega
    · rw [ups_end h]; simp
theorem levels_len (n : Int) : (levelsL n).length ≤ 2000 := by
  unfold levelsL
  split
  · simp
  · rw [List.length_cons]
    have := ups_len ((n.toNat + 127) / 128)
    omega
theorem take_sum (l : List Nat) (i : Nat) : (l.take i).sum ≤ l.sum := by
  have := List.take_append_drop i l
  have h2 : (l.take i ++ l.drop i).sum = l.sum := by rw [this]
  rw [List.sum_append] at h2
  omega
theorem needSpec (hk : K 7 = none) (hk1 : K 17 = none) (hk2 : K 30 = none) (n : Int) (h : AH) :
    Wf Try.prog K 7 [.int .i64 n] h fun v h' => v = .int .i64 (needL n) ∧ Old h h' := by
  refine vc_blob_Need hk _ h _ ((levelsSpec hk1 hk2 n h).mono ?_)
  rintro _ h1 ⟨p, m, c, rfl, hg, ho⟩
  refine ⟨p, m, c, rfl, fun s i k h' => ∃ j : Nat, i = j ∧ j ≤ m ∧ m - j = k ∧ s = (((levelsL n).take j).sum : Nat) ∧ h1 = h', ⟨m, 0, rfl, Nat.zero_le _, rfl, by simp, rfl⟩, ?_⟩
  have hm : (levelsL n).length = m := by have := hg.1; rw [natC_len] at this; omega
  rintro k h' s i ⟨j, rfl, hj, rfl, rfl, rfl⟩
  refine ⟨fun hi => ?_, fun hi => ⟨?_, ho⟩⟩
  · obtain ⟨b, off, rfl, hl⟩ := hg.shows.get (i := j) (by omega)
    have hjl : j < (levelsL n).length := by omega
    refine ⟨by omega, by omega, (((levelsL n)[j] : Nat) : Int), ?_, fun i1 e1 i2 e2 => ?_⟩
    · rw [Int.toNat_natCast, Nat.mul_one, hl, natC_get hjl]
    · have q1 := take_sum (levelsL n) (j + 1)
      have q2 := levels_sum n
      have q4 := levels_len n
      have q3 : ((levelsL n).take (j + 1)).sum = ((levelsL n).take j).sum + (levelsL n)[j] := by
        rw [List.take_succ_eq_append_getElem hjl, List.sum_append]; simp
      have e1 := i64w e1 (by omega) (by omega)
      have e2 := i64w e2 (by omega) (by omega)
      exact ⟨m - (j + 1), by omega, j + 1, by omega, by omega, rfl, by omega, rfl⟩
  · have : j = m := by omega
    subst this
    rw [List.take_of_length_le (by omega)]
    rfl
end
end Go.Am
