/-
  HOW MANY SECTORS A TEXT NEEDS, in this program and in the document's: both are the sum of the same levels.
-/
import Derived.Test.YtfomjjgojpmgcabAmH
import Derived.Test.YtfomjjgojpmgcabVNeed
import Derived.Test.YtfomjjgojpmgcabAmF
set_option linter.unusedVariables false
set_option linter.unusedSimpArgs false
namespace Go.Am
open Go.Proofs
def ups (k : Nat) : List Nat := if 1 < k then ((k + 7) / 8) :: ups ((k + 7) / 8) else []
termination_by k
decreasing_by omega
def levelsL (n : Int) : List Nat := if n < 1 ∨ 65535 < n then [] else ((n.toNat + 127) / 128) :: ups ((n.toNat + 127) / 128)
def needL (n : Int) : Nat := (levelsL n).sum
theorem ups_step {k : Nat} (h : 1 < k) : ups k = ((k + 7) / 8) :: ups ((k + 7) / 8) := by
  conv => lhs; unfold ups
  rw [if_pos h]
theorem ups_end {k : Nat} (h : ¬ 1 < k) : ups k = [] := by
  conv => lhs; unfold ups
  rw [if_neg h]
section
variable {K : Xs}
theorem upSpec (hk : K 33 = none) (a b : Nat) (ha : a ≤ 100000) (hb : 1 ≤ b ∧ b ≤ 1000) (h : AH) :
    Wf Try.prog K 33 [.int .i64 a, .int .i64 b] h fun v h' => v = .int .i64 ((a + b - 1) / b : Nat) ∧ h = h' := by
  refine vc_blob_up_int_ hk _ _ h _ fun i0 e0 i1 e1 => ?_
  have e0 := i64w e0 (by omega) (by omega)
  subst e0
  have e1 := i64w e1 (by omega) (by omega)
  subst e1
  refine ⟨by omega, fun i2 e2 => ?_⟩
  have hq : Int.tdiv ((a : Int) + b - 1) b = (((a + b - 1) / b : Nat) : Int) := by
    rw [Int.tdiv_eq_ediv_of_nonneg (by omega)]
    rw [Int.natCast_ediv]
    congr 1
    omega
  have hle : (a + b - 1) / b ≤ a + b := Nat.le_trans (Nat.div_le_self _ _) (by omega)
  rw [hq] at e2
  obtain ⟨q, hq2⟩ : ∃ q, q = (a + b - 1) / b := ⟨_, rfl⟩
  rw [← hq2] at e2 hle ⊢
  have e2 := i64w e2 (by omega) (by omega)
  exact ⟨by rw [e2], rfl⟩
theorem levelsSpec (hk : K 19 = none) (hk2 : K 33 = none) (n : Int) (h : AH) :
    Wf Try.prog K 19 [.int .i64 n] h fun v h' => ∃ p m c, v = .slice p m c ∧ Grow h.next h' 3 1 p m c (natC .i64 (levelsL n)) ∧ Old h h' := by
  refine vc_blob_levels hk _ h _ ⟨fun h1 => ?_, fun h1 => ⟨fun h2 => ?_, fun h2 => ?_⟩⟩
  · exact ⟨_, _, _, rfl, by unfold levelsL; rw [if_pos (.inl h1)]; exact Grow.nil _ _ _ _, Old.refl _⟩
  · exact ⟨_, _, _, rfl, by unfold levelsL; rw [if_pos (.inr h2)]; exact Grow.nil _ _ _ _, Old.refl _⟩
  · obtain ⟨N, rfl⟩ : ∃ N : Nat, n = N := ⟨n.toNat, by omega⟩
    refine (upSpec hk2 N 128 (by omega) (by omega) h).mono ?_
    rintro _ _ ⟨rfl, rfl⟩
    refine ⟨_, rfl, fun h3 e3 => ?_⟩
    have hL : levelsL N = ((N + 127) / 128) :: ups ((N + 127) / 128) := by
      unfold levelsL
      rw [if_neg (by omega), Int.toNat_natCast]
    refine ⟨fun i p m c k h' => ∃ (s : Nat) (done : List Nat), i = s ∧ s = k ∧ s + done.length ≤ 1000 ∧ Grow h.next h' 3 1 p m c (natC .i64 done) ∧ Old h h' ∧ levelsL N = done ++ ups s, ⟨(N + 128 - 1) / 128, (N + 128 - 1) / 128, [(N + 128 - 1) / 128], rfl, rfl, ?_, ?_, Old.alloc (Old.refl _) e3, ?_⟩, ?_⟩
    · simp; omega
    · subst e3
      exact ⟨rfl, .inr ⟨h.next, rfl, Nat.le_refl _, Nat.lt_succ_self _, get_alloc_next _ _, .inr rfl⟩⟩
    · rw [hL]; rfl
    · rintro k h' i p m c ⟨s, done, rfl, rfl, hs, hg, ho, hl⟩
      refine ⟨fun hi => ?_, fun hi => ⟨_, _, _, rfl, ?_, ho⟩⟩
      · refine (upSpec hk2 s 8 (by omega) (by omega) h').mono ?_
        rintro _ _ ⟨rfl, rfl⟩
        refine ⟨_, rfl, fun h4 e4 => ?_⟩
        have hm : m = done.length := by have := hg.1; rw [natC_len] at this; omega
        obtain ⟨p', c', h5, ha, hg2, hob, -⟩ := hg.push (ElemOk_of (st := 28) (by' := 8) (by kernel_rfl)) ho.1 (ns := natC .i64 [(s + 8 - 1) / 8]) (m := 1) e4 rfl (by unfold roomMax; omega) (by omega)
        refine ⟨p', m + 1, c', h5, ha, (s + 8 - 1) / 8, by omega, (s + 8 - 1) / 8, done ++ [(s + 8 - 1) / 8], rfl, rfl, by simp; omega, by rw [natC_app]; exact hg2, ?_, ?_⟩
        · exact ((ho.toB (Nat.le_refl _)).trans hob).toOld
        · rw [hl, ups_step (by omega)]; simp
      · rw [hl, ups_end (by omega), List.append_nil]; exact hg
/-- The document's levels. -/
theorem levelsRef (hk : K 20 = none) (n : Int) (h : AH) :
    Wf Try.prog K 20 [.int .i64 n] h fun v h' => ∃ p m c, v = .slice p m c ∧ Grow h.next h' 3 1 p m c (natC .i64 (levelsL n)) ∧ Old h h' := by
  refine vc_aquiferref12_Levels hk _ h _ fun h0 e0 => ⟨fun h1 => ?_, fun h1 => ⟨fun h2 => ?_, fun h2 i1 e1 => ?_⟩⟩
  · exact ⟨_, _, _, rfl, by unfold levelsL; rw [if_pos (.inl h1)]; exact Grow.lit e0 rfl (Nat.le_refl _), Old.alloc (Old.refl _) e0⟩
  · exact ⟨_, _, _, rfl, by unfold levelsL; rw [if_pos (.inr h2)]; exact Grow.lit e0 rfl (Nat.le_refl _), Old.alloc (Old.refl _) e0⟩
  · obtain ⟨N, rfl⟩ : ∃ N : Nat, n = N := ⟨n.toNat, by omega⟩
    have e1 := i64w e1 (by omega) (by omega)
    refine ⟨by omega, fun i2 e2 h3 e3 => ?_⟩
    rw [e1, show ((N : Int) + 127) = ((N + 127 : Nat) : Int) from by omega, show (128 : Int) = ((128 : Nat) : Int) from rfl, tdivN] at e2
    have e2 := i64w e2 (by omega) (by omega)
    have hL : levelsL N = ((N + 127) / 128) :: ups ((N + 127) / 128) := by
      unfold levelsL
      rw [if_neg (by omega), Int.toNat_natCast]
    have o0 : Old h h0 := Old.alloc (Old.refl _) e0
    subst e2
    obtain ⟨p', c', h5, ha, hg2, hob, -⟩ := (Grow.lit (lim := h.next) (sz := 1) (n := 0) e0 rfl (Nat.le_refl _)).push (ElemOk_of (st := 28) (by' := 8) (by kernel_rfl)) o0.1 (ns := natC .i64 [(N + 127) / 128]) (m := 1) e3 rfl (by decide) (by decide)
    refine ⟨p', 1, c', h5, ha, fun p m c i k h' => ∃ (s : Nat) (done : List Nat), i = s ∧ s = k ∧ s + done.length ≤ 1000 ∧ Grow h.next h' 3 1 p m c (natC .i64 done) ∧ Old h h' ∧ levelsL N = done ++ ups s, ⟨_, (N + 127) / 128, [(N + 127) / 128], rfl, rfl, ?_, hg2, ((o0.toB (Nat.le_refl _)).trans hob).toOld, ?_⟩, ?_⟩
    · simp; omega
    · rw [hL]; rfl
    · rintro k h' p m c i ⟨s, done, rfl, rfl, hs, hg, ho, hl⟩
      refine ⟨fun hi i3 e3 => ⟨by omega, fun i4 e4 h6 e6 => ?_⟩, fun hi => ⟨_, _, _, rfl, ?_, ho⟩⟩
      · have e3 := i64w e3 (by omega) (by omega)
        rw [e3, show ((s : Int) + 7) = ((s + 7 : Nat) : Int) from by omega, show (8 : Int) = ((8 : Nat) : Int) from rfl, tdivN] at e4
        have e4 := i64w e4 (by omega) (by omega)
        subst e4
        have hm : m = done.length := by have := hg.1; rw [natC_len] at this; omega
        obtain ⟨p', c', h5, ha, hg2, hob, -⟩ := hg.push (ElemOk_of (st := 28) (by' := 8) (by kernel_rfl)) ho.1 (ns := natC .i64 [(s + 7) / 8]) (m := 1) e6 rfl (by unfold roomMax; omega) (by omega)
        refine ⟨p', m + 1, c', h5, ha, (s + 7) / 8, by omega, (s + 7) / 8, done ++ [(s + 7) / 8], rfl, rfl, by simp; omega, by rw [natC_app]; exact hg2, ((ho.toB (Nat.le_refl _)).trans hob).toOld, ?_⟩
        rw [hl, ups_step (by omega)]; simp
      · rw [hl, ups_end (by omega), List.append_nil]; exact hg
theorem ups_sum (k : Nat) : (ups k).sum ≤ k := by
  induction k using Nat.strongRecOn with
  | ind k ih =>
    by_cases h : 1 < k
    · rw [ups_step h, List.sum_cons]
      have := ih ((k + 7) / 8) (by omega)
      by_cases h2 : k ≤ 8
      · have : (k + 7) / 8 = 1 := by omega
        rw [this, ups_end (by omega)]
        simp; omega
      · omega
    · rw [ups_end h]; simp
theorem levels_sum (n : Int) : (levelsL n).sum ≤ 2000 := by
  unfold levelsL
  split
  · simp
  · rw [List.sum_cons]
    have := ups_sum ((n.toNat + 127) / 128)
    omega
theorem ups_len (k : Nat) : (ups k).length ≤ k := by
  induction k using Nat.strongRecOn with
  | ind k ih =>
    by_cases h : 1 < k
    · rw [ups_step h, List.length_cons]
      have := ih ((k + 7) / 8) (by omega)
      omega
    · rw [ups_end h]; simp
theorem levels_len (n : Int) : (levelsL n).length ≤ 2000 := by
  unfold levelsL
  split
  · simp
  · rw [List.length_cons]
    have := ups_len ((n.toNat + 127) / 128)
    omega
theorem take_sum (l : List Nat) (i : Nat) : (l.take i).sum ≤ l.sum := by
  have := List.take_append_drop i l
  have h2 : (l.take i ++ l.drop i).sum = l.sum := by rw [this]
  rw [List.sum_append] at h2
  omega
theorem needSpec (hk : K 8 = none) (hk1 : K 19 = none) (hk2 : K 33 = none) (n : Int) (h : AH) :
    Wf Try.prog K 8 [.int .i64 n] h fun v h' => v = .int .i64 (needL n) ∧ Old h h' := by
  refine vc_blob_Need hk _ h _ ((levelsSpec hk1 hk2 n h).mono ?_)
  rintro _ h1 ⟨p, m, c, rfl, hg, ho⟩
  refine ⟨p, m, c, rfl, fun s i k h' => ∃ j : Nat, i = j ∧ j ≤ m ∧ m - j = k ∧ s = (((levelsL n).take j).sum : Nat) ∧ h1 = h', ⟨m, 0, rfl, Nat.zero_le _, rfl, by simp, rfl⟩, ?_⟩
  have hm : (levelsL n).length = m := by have := hg.1; rw [natC_len] at this; omega
  rintro k h' s i ⟨j, rfl, hj, rfl, rfl, rfl⟩
  refine ⟨fun hi => ?_, fun hi => ⟨?_, ho⟩⟩
  · obtain ⟨b, off, rfl, hl⟩ := hg.shows.get (i := j) (by omega)
    have hjl : j < (levelsL n).length := by omega
    refine ⟨by omega, by omega, (((levelsL n)[j] : Nat) : Int), ?_, fun i1 e1 i2 e2 => ?_⟩
    · rw [Int.toNat_natCast, Nat.mul_one, hl, natC_get hjl]
    · have q1 := take_sum (levelsL n) (j + 1)
      have q2 := levels_sum n
      have q4 := levels_len n
      have q3 : ((levelsL n).take (j + 1)).sum = ((levelsL n).take j).sum + (levelsL n)[j] := by
        rw [List.take_succ_eq_append_getElem hjl, List.sum_append]; simp
      have e1 := i64w e1 (by omega) (by omega)
      have e2 := i64w e2 (by omega) (by omega)
      exact ⟨m - (j + 1), by omega, j + 1, by omega, by omega, rfl, by omega, rfl⟩
  · have : j = m := by omega
    subst this
    rw [List.take_of_length_le (by omega)]
    rfl
theorem needRef (hk : K 9 = none) (hk1 : K 20 = none) (n : Int) (h : AH) :
    Wf Try.prog K 9 [.int .i64 n] h fun v h' => v = .int .i64 (needL n) ∧ Old h h' := by
  refine vc_aquiferref12_Need hk _ h _ ((levelsRef hk1 n h).mono ?_)
  rintro _ h1 ⟨p, m, c, rfl, hg, ho⟩
  refine ⟨p, m, c, rfl, fun s i k h' => ∃ j : Nat, i = j ∧ j ≤ m ∧ m - j = k ∧ s = (((levelsL n).take j).sum : Nat) ∧ h1 = h', ⟨m, 0, rfl, Nat.zero_le _, rfl, by simp, rfl⟩, ?_⟩
  have hm : (levelsL n).length = m := by have := hg.1; rw [natC_len] at this; omega
  rintro k h' s i ⟨j, rfl, hj, rfl, rfl, rfl⟩
  refine ⟨fun hi => ?_, fun hi => ⟨?_, ho⟩⟩
  · obtain ⟨b, off, rfl, hl⟩ := hg.shows.get (i := j) (by omega)
    have hjl : j < (levelsL n).length := by omega
    refine ⟨by omega, by omega, (((levelsL n)[j] : Nat) : Int), ?_, fun i1 e1 i2 e2 => ?_⟩
    · rw [Int.toNat_natCast, Nat.mul_one, hl, natC_get hjl]
    · have q1 := take_sum (levelsL n) (j + 1)
      have q2 := levels_sum n
      have q4 := levels_len n
      have q3 : ((levelsL n).take (j + 1)).sum = ((levelsL n).take j).sum + (levelsL n)[j] := by
        rw [List.take_succ_eq_append_getElem hjl, List.sum_append]; simp
      have e1 := i64w e1 (by omega) (by omega)
      have e2 := i64w e2 (by omega) (by omega)
      exact ⟨m - (j + 1), by omega, j + 1, by omega, by omega, rfl, by omega, rfl⟩
  · have : j = m := by omega
    subst this
    rw [List.take_of_length_le (by omega)]
    rfl
/-- What the law asks: told that the example lives. -/
theorem needsTrue (hk : K 3 = none) (ha : K 7 = some (.sum xTrue)) (h1 : K 8 = none) (h2 : K 19 = none) (h3 : K 33 = none) (h4 : K 9 = none) (h5 : K 20 = none)
    (n : Int) (h : AH) : Wf Try.prog K 3 [.int .i64 n] h fun v _ => v = .bool true := by
  refine vc_aquiferlaw12_BlobNeeds hk _ h _ (Wf_sum ha (v := .bool true) (h' := h) rfl (Nat.le_refl _) (.inl ⟨rfl, (needSpec h1 h2 h3 n h).mono ?_⟩))
  rintro _ g1 ⟨rfl, ho⟩
  refine ⟨_, rfl, (needRef h4 h5 n g1).mono ?_⟩
  rintro _ g2 ⟨rfl, ho2⟩
  exact ⟨_, rfl, fun _ => rfl, fun q => absurd rfl q⟩
/-! ## What a longer text needs -/
theorem ups_mono : ∀ (b a : Nat), a ≤ b → (ups a).sum ≤ (ups b).sum := by
  intro b
  induction b using Nat.strongRecOn with
  | ind b ih =>
    intro a hab
    by_cases hb : 1 < b
    · rw [ups_step hb, List.sum_cons]
      by_cases ha : 1 < a
      · rw [ups_step ha, List.sum_cons]
        have := ih ((b + 7) / 8) (by omega) ((a + 7) / 8) (by omega)
        omega
      · rw [ups_end ha]; simp
    · rw [ups_end hb, ups_end (by omega)]; exact Nat.le_refl _
/-- One sector more on the lowest level: at most one more on each above. -/
theorem ups_succ : ∀ (d a : Nat), a < 8 ^ d → (ups (a + 1)).sum ≤ (ups a).sum + d := by
  intro d
  induction d with
  | zero =>
    intro a ha
    have : a = 0 := by simpa using ha
    subst this
    rw [ups_end (by omega), ups_end (by omega)]
    simp
  | succ d ih =>
    intro a ha
    rw [Nat.pow_succ] at ha
    by_cases h1 : 1 < a + 1
    · rw [ups_step h1, List.sum_cons]
      by_cases h2 : 1 < a
      · rw [ups_step h2, List.sum_cons]
        by_cases hq : (a + 1 + 7) / 8 = (a + 7) / 8
        · rw [hq]; omega
        · have hq2 : (a + 1 + 7) / 8 = (a + 7) / 8 + 1 := by omega
          have := ih ((a + 7) / 8) (by omega)
          rw [hq2]
          omega
      · have : a = 1 := by omega
        subst this
        rw [ups_end (show ¬ 1 < (1 + 1 + 7) / 8 by omega)]
        simp only [List.sum_nil]
        omega
    · rw [ups_end h1]; simp
theorem ups_seventh {a : Nat} (ha : a ≤ 512) : (ups a).sum ≤ a / 7 + 3 := by
  by_cases h1 : 1 < a
  · rw [ups_step h1, List.sum_cons]
    by_cases h2 : 1 < (a + 7) / 8
    · rw [ups_step h2, List.sum_cons]
      by_cases h3 : 1 < ((a + 7) / 8 + 7) / 8
      · rw [ups_step h3, List.sum_cons, ups_end (show ¬ 1 < (((a + 7) / 8 + 7) / 8 + 7) / 8 by omega)]
        simp only [List.sum_nil]
        omega
      · rw [ups_end h3]
        simp only [List.sum_nil]
        omega
    · rw [ups_end h2]
      simp only [List.sum_nil]
      omega
  · rw [ups_end h1]; simp
theorem needL_eq {n : Int} (h1 : 1 ≤ n) (h2 : n ≤ 65535) : needL n = (n.toNat + 127) / 128 + (ups ((n.toNat + 127) / 128)).sum := by
  unfold needL levelsL
  rw [if_neg (by omega), List.sum_cons]
theorem needL_none {n : Int} (h : n < 1 ∨ 65535 < n) : needL n = 0 := by
  unfold needL levelsL
  rw [if_pos h]
  rfl
/-- What the law asks: told that the example lives. -/
theorem growsTrue (hk : K 5 = none) (ha : K 7 = some (.sum xTrue)) (h1 : K 8 = none) (h2 : K 19 = none) (h3 : K 33 = none)
    (n : Int) (h : AH) : Wf Try.prog K 5 [.int .i64 n] h fun v _ => v = .bool true := by
  refine vc_aquiferlaw12_BlobGrows hk _ h _ (Wf_sum ha (v := .bool true) (h' := h) rfl (Nat.le_refl _) (.inl ⟨rfl, ⟨fun q1 => ?_, fun q1 => ⟨fun q2 => ?_, fun q2 => ?_⟩⟩⟩))
  · refine (needSpec h1 h2 h3 n h).mono ?_
    rintro _ g1 ⟨rfl, ho⟩
    refine ⟨_, rfl, fun _ => rfl, fun q => absurd ?_ q⟩
    rw [needL_none (.inl q1)]; rfl
  · refine (needSpec h1 h2 h3 n h).mono ?_
    rintro _ g1 ⟨rfl, ho⟩
    refine ⟨_, rfl, fun _ => rfl, fun q => ⟨fun _ => rfl, fun q3 => absurd ?_ q⟩⟩
    rw [needL_none (.inr (by omega))]; rfl
  · refine (needSpec h1 h2 h3 n h).mono ?_
    rintro _ g1 ⟨rfl, ho⟩
    refine ⟨_, rfl, fun i1 e1 => ?_⟩
    have e1 := i64w e1 (by omega) (by omega)
    subst e1
    refine (needSpec h1 h2 h3 (n + 1) g1).mono ?_
    rintro _ g2 ⟨rfl, ho2⟩
    refine ⟨_, rfl, fun i2 e2 => ?_⟩
    have e2 := i64w e2 (by omega) (by omega)
    subst e2
    obtain ⟨N, rfl⟩ : ∃ N : Nat, n = N := ⟨n.toNat, by omega⟩
    have hk1 := needL_eq (n := N) (by omega) (by omega)
    have hk2 := needL_eq (n := (N : Int) + 1) (by omega) (by omega)
    rw [show ((N : Int) + 1).toNat = N + 1 from by omega] at hk2
    rw [Int.toNat_natCast] at hk1
    have m1 := ups_mono ((N + 1 + 127) / 128) ((N + 127) / 128) (by omega)
    have m3 := ups_seventh (a := (N + 127) / 128) (by omega)
    have m4 : (ups ((N + 1 + 127) / 128)).sum ≤ (ups ((N + 127) / 128)).sum + 3 ∧ ((N + 1 + 127) / 128 = (N + 127) / 128 + 1 ∨ ((N + 1 + 127) / 128 = (N + 127) / 128 ∧ (ups ((N + 1 + 127) / 128)).sum = (ups ((N + 127) / 128)).sum)) := by
      by_cases q : (N + 1 + 127) / 128 = (N + 127) / 128
      · rw [q]; omega
      · have : (N + 1 + 127) / 128 = (N + 127) / 128 + 1 := by omega
        have m2 := ups_succ 3 ((N + 127) / 128) (by omega)
        rw [this]; omega
    generalize (ups ((N + 127) / 128)).sum = u at *
    generalize (ups ((N + 1 + 127) / 128)).sum = u' at *
    refine ⟨by omega, fun i3 e3 => ?_⟩
    rw [show ((N : Int) + 127) = ((N + 127 : Nat) : Int) from by omega, show (128 : Int) = ((128 : Nat) : Int) from rfl, tdivN] at e3
    have e3 := i64w e3 (by omega) (by omega)
    subst e3
    refine ⟨fun _ i4 e4 => ?_, fun q => absurd (by omega) q⟩
    have e4 := i64w e4 (by omega) (by omega)
    subst e4
    refine ⟨fun _ => ⟨fun _ => ⟨by omega, fun i5 e5 i6 e6 i7 e7 => ?_⟩, fun q => absurd (by omega) q⟩, fun q => absurd (by omega) q⟩
    rw [show (7 : Int) = ((7 : Nat) : Int) from rfl, tdivN] at e5
    have e5 := i64w e5 (by omega) (by omega)
    subst e5
    have e6 := i64w e6 (by omega) (by omega)
    subst e6
    have e7 := i64w e7 (by omega) (by omega)
    subst e7
    exact ⟨fun _ => rfl, fun q => absurd (by omega) q⟩
end
end Go.Am
