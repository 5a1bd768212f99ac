/-
  NUMBERS SORTED, a few of them (twelve at most): what lies there then.
-/
import Derived.Test.YtnapccecmcdnjacGreatVSort
import Derived.Test.YtnapccecmcdnjacGreatPFacts
import Derived.Test.YtnapccecmcdnjacGreatAmH
set_option linter.unusedVariables false
set_option linter.unusedSimpArgs false
set_option maxRecDepth 100000
namespace Go.Am
open Go.Proofs
structure KSort (K : Xs) : Prop where
  sort : K 16 = none
  pdq : K 32 = none
  ins : K 62 = none
  less : K 68 = none
  nan : K 104 = none
  len : K 33 = none
  len64 : K 72 = none
def insF : List Nat → Nat → List Nat
  | l, 0 => l
  | l, j + 1 => if l.getD (j + 1) 0 < l.getD j 0 then insF ((l.set (j + 1) (l.getD j 0)).set j (l.getD (j + 1) 0)) j else l
def srtF : Nat → List Nat → Nat → List Nat
  | 0, l, _ => l
  | k + 1, l, i => srtF k (insF l i) (i + 1)
section
variable {K : Xs} {h : AH}
theorem lessInt (kk : KSort K) (x y : Int) : Wf Tryz.prog K 68 [.int .i64 x, .int .i64 y] h fun v h' => v = .bool (decide (x < y)) ∧ h = h' := by
  have nan : ∀ z, Wf Tryz.prog K 104 [.int .i64 z] h fun v h' => v = .bool false ∧ h = h' := fun z => vc_cmp_isNaN_int_ kk.nan _ h _ ⟨fun _ => ⟨rfl, rfl⟩, fun y => absurd rfl y⟩
  refine vc_cmp_Less_int_ kk.less _ _ h _ ((nan x).mono ?_)
  rintro _ _ ⟨rfl, rfl⟩
  exact .inr ⟨rfl, fun z => ⟨by simp [z], rfl⟩, fun z => ⟨by simp [z], rfl⟩⟩
theorem insSort (kk : KSort K) {b n c : Nat} {l : List Nat} (hl : l.length = n) (hn : n ≤ 1000) (hg : h.get b = some (.cells (natC .i64 l) 3 false)) (hb : ∀ x ∈ l, x < 1000000) :
    Wf Tryz.prog K 62 [.slice (some ⟨b, 0, none⟩) n c, .int .i64 0, .int .i64 n] h fun v h' => v = .tuple #[] ∧ Near b h h' ∧ h'.get b = some (.cells (natC .i64 (srtF (n - 1) l 1)) 3 false) := by
  refine vc_slices_insertionSortOrdered_int_ kk.ins _ _ _ _ _ h _ fun i0 e0 => ?_
  have e0 := i64w e0 (by decide) (by decide)
  subst e0
  refine ⟨fun i k g => ∃ (u : Nat) (l2 : List Nat), i = u ∧ 1 ≤ u ∧ n - u = k ∧ l2.length = n ∧ srtF (n - u) l2 u = srtF (n - 1) l 1 ∧ Near b h g ∧ g.get b = some (.cells (natC .i64 l2) 3 false), ⟨n - 1, 1, l, rfl, Nat.le_refl _, rfl, hl, rfl, Near.refl _ _, hg⟩, ?_⟩
  rintro k2 g3 i5 ⟨u, l2, rfl, hu, rfl, hl2, hs, nr, w⟩
  refine ⟨fun z => ?_, fun z => ?_⟩
  rotate_left
  · have : n - u = 0 := by omega
    rw [this] at hs
    rw [← hs]
    exact ⟨rfl, nr, w⟩
  have hun : u < n := by omega
  have hsu : srtF (n - u) l2 u = srtF (n - (u + 1)) (insF l2 u) (u + 1) := by
    rw [show n - u = (n - (u + 1)) + 1 by omega]
    rfl
  refine ⟨fun i k g => ∃ (t : Nat) (l3 : List Nat), i = t ∧ t ≤ u ∧ t = k ∧ l3.length = n ∧ insF l3 t = insF l2 u ∧ Near b h g ∧ g.get b = some (.cells (natC .i64 l3) 3 false), ⟨u, u, l2, rfl, Nat.le_refl _, rfl, hl2, rfl, nr, w⟩, ?_⟩
  rintro k7 g8 i10 ⟨t, l3, rfl, htu, rfl, hl3, hi, nr8, w8⟩
  have done : ∀ {g : AH}, insF l3 t = l3 → Near b h g → g.get b = some (.cells (natC .i64 l3) 3 false) → ∀ i36 : Int, i36 = IntKind.wrap .i64 ((u : Int) + 1) → ∃ j4, j4 < n - u ∧ ∃ (v : Nat) (l4 : List Nat), i36 = v ∧ 1 ≤ v ∧ n - v = j4 ∧ l4.length = n ∧ srtF (n - v) l4 v = srtF (n - 1) l 1 ∧ Near b h g ∧ g.get b = some (.cells (natC .i64 l4) 3 false) := by
    intro g he nrg wg i36 e36
    have e36 := i64w e36 (by omega) (by omega)
    refine ⟨n - (u + 1), by omega, u + 1, l3, by omega, by omega, rfl, hl3, ?_, nrg, wg⟩
    rw [← hs, hsu, ← hi, he]
  refine ⟨fun z2 => ?_, fun z2 => ?_⟩
  rotate_left
  · obtain rfl : t = 0 := by omega
    exact done rfl nr8 w8
  obtain ⟨j, rfl⟩ : ∃ j, t = j + 1 := ⟨t - 1, by omega⟩
  have hx : ∀ {i : Nat}, i < n → (natC .i64 l3)[i]? = some (.int .i64 (l3.getD i 0 : Nat)) := fun {i} hi2 => by
    rw [natC_get (by omega : i < l3.length)]
    simp [List.getD, hl3, hi2]
  have ldj : ∀ {g : AH} {i : Nat}, g.get b = some (.cells (natC .i64 l3) 3 false) → i < n → ld1 g b (0 + Int.toNat (i : Int) * 1) = some (.int .i64 (l3.getD i 0 : Nat)) := fun wg hi2 => ld1_at wg (by rw [Int.toNat_natCast, Nat.zero_add, Nat.mul_one]; exact hx hi2)
  refine derefP_at ⟨by omega, by omega, _, ldj w8 (by omega), fun i14 e14 => ?_⟩
  have e14 := i64w e14 (by omega) (by omega)
  obtain rfl : i14 = (j : Int) := by omega
  refine derefP_at ⟨by omega, by omega, _, ldj w8 (by omega), (lessInt kk _ _).mono ?_⟩
  rintro _ _ ⟨rfl, rfl⟩
  by_cases hlt : l3.getD (j + 1) 0 < l3.getD j 0
  · refine .inl ⟨by simp only [Int.ofNat_lt, hlt, decide_true], fun i20 e20 => ?_⟩
    have e20 := i64w e20 (by omega) (by omega)
    obtain rfl : i20 = (j : Int) := by omega
    refine derefP_at ⟨by omega, by omega, _, ldj w8 (by omega), derefP_at ⟨by omega, by omega, _, ldj w8 (by omega), derefP_at ⟨by omega, by omega, ?_⟩⟩⟩
    have st1' : st1 g8 b (0 + Int.toNat ((j + 1 : Nat) : Int) * 1) (.int .i64 (l3.getD j 0 : Nat)) = some (g8.set b (.cells (natC .i64 (l3.set (j + 1) (l3.getD j 0))) 3 false)) := by
      rw [st1_of w8 (by rw [natC_len, Int.toNat_natCast]; omega), Int.toNat_natCast, Nat.zero_add, Nat.mul_one, natC_set]
    have n29 := near_set b g8 (.cells (natC .i64 (l3.set (j + 1) (l3.getD j 0))) 3 false)
    have w29 := get_set_self b g8 (.cells (natC .i64 (l3.set (j + 1) (l3.getD j 0))) 3 false)
    generalize g8.set b (.cells (natC .i64 (l3.set (j + 1) (l3.getD j 0))) 3 false) = g29 at st1' n29 w29
    refine ⟨g29, st1', fun i30 e30 => ?_⟩
    have e30 := i64w e30 (by omega) (by omega)
    obtain rfl : i30 = (j : Int) := by omega
    have st2' : st1 g29 b (0 + Int.toNat (j : Int) * 1) (.int .i64 (l3.getD (j + 1) 0 : Nat)) = some (g29.set b (.cells (natC .i64 ((l3.set (j + 1) (l3.getD j 0)).set j (l3.getD (j + 1) 0))) 3 false)) := by
      rw [st1_of w29 (by rw [natC_len, Int.toNat_natCast]; simp; omega), Int.toNat_natCast, Nat.zero_add, Nat.mul_one, natC_set]
    refine derefP_at ⟨by omega, by omega, _, st2', fun i34 e34 => ?_⟩
    have e34 := i64w e34 (by omega) (by omega)
    refine ⟨j, Nat.lt_succ_self _, j, _, by omega, by omega, rfl, by simp [hl3], ?_, (nr8.trans n29).trans (near_set _ _ _), get_set_self _ _ _⟩
    rw [← hi]
    show _ = if l3.getD (j + 1) 0 < l3.getD j 0 then _ else _
    rw [if_pos hlt]
  · refine .inr ⟨by simp only [Int.ofNat_lt, hlt, decide_false], done ?_ nr8 w8⟩
    show (if l3.getD (j + 1) 0 < l3.getD j 0 then _ else _) = l3
    rw [if_neg hlt]
theorem len5 (kk : KSort K) : Wf Tryz.prog K 33 [.int .u64 5] h fun v h' => v = .int .i64 3 ∧ h = h' := by
  refine vc_bits_Len kk.len _ h _ (vc_bits_Len64 kk.len64 _ h _ ⟨fun z => absurd z (by decide), fun _ => ⟨fun z => absurd z (by decide), fun _ => ⟨fun z => absurd z (by decide), fun _ i41 e41 => ?_⟩⟩⟩)
  obtain rfl : i41 = 5 := e41.trans (by decide)
  refine ⟨by decide, 3, rfl, fun i43 e43 i44 e44 => ?_⟩
  obtain rfl : i43 = 3 := e43.trans (by decide)
  obtain rfl : i44 = 3 := e44.trans (by decide)
  exact ⟨_, rfl, rfl, rfl⟩
end
end Go.Am
