/-
  SETS AS THE DOCUMENT HAS THEM: the spans of some bits; are two sets the same?
-/
import Derived.Test.YteblpmcekhcgiacCTaken
import Derived.Test.YteblpmcekhcgiacAmH
import Derived.Test.YteblpmcekhcgiacVTree
set_option linter.unusedVariables false
set_option linter.unusedSimpArgs false
set_option maxRecDepth 100000
namespace Go.Am
open Go.Proofs
theorem gap_low {e : Int} {s l : Nat} {r : List (Nat × Nat)} (g : Gap e ((s, l) :: r)) : ∀ x ∈ exN ((s, l) :: r), s ≤ x := by
  obtain ⟨g1, g2, g3, g4⟩ := g
  intro x hx
  have hx : x ∈ List.range' s l ++ exN r := hx
  rcases List.mem_append.1 hx with hx | hx
  · exact (List.mem_range'_1.1 hx).1
  · have := ex_low g4 x hx; omega
theorem gap_uniq : ∀ {e1 e2 : Int} {s1 s2 : List (Nat × Nat)}, Gap e1 s1 → Gap e2 s2 → (∀ x, x ∈ exN s1 ↔ x ∈ exN s2) → s1 = s2
  | _, _, [], [], _, _, _ => rfl
  | _, _, [], (s, l) :: r, _, g, h => by
    have g2 : 1 ≤ l := g.2.1
    have : s ∈ exN ([] : List (Nat × Nat)) := (h s).2 (List.mem_append.2 (.inl (List.mem_range'_1.2 (by omega))))
    cases this
  | _, _, (s, l) :: r, [], g, _, h => by
    have g2 : 1 ≤ l := g.2.1
    have : s ∈ exN ([] : List (Nat × Nat)) := (h s).1 (List.mem_append.2 (.inl (List.mem_range'_1.2 (by omega))))
    cases this
  | _, _, (s, l) :: r, (t, k) :: u, g, f, h => by
    have g' := g
    have f' := f
    obtain ⟨g1, g2, g3, g4⟩ := g'
    obtain ⟨f1, f2, f3, f4⟩ := f'
    have g2 : 1 ≤ l := g2
    have f2 : 1 ≤ k := f2
    have hs : t ≤ s := gap_low f s ((h s).1 (List.mem_append.2 (.inl (List.mem_range'_1.2 (by omega)))))
    have ht : s ≤ t := gap_low g t ((h t).2 (List.mem_append.2 (.inl (List.mem_range'_1.2 (by omega)))))
    obtain rfl : s = t := by omega
    have in1 : ∀ x, x ∈ exN r → (s + l : Nat) < x := fun x hx => by have := ex_low g4 x hx; omega
    have in2 : ∀ x, x ∈ exN u → (s + k : Nat) < x := fun x hx => by have := ex_low f4 x hx; omega
    have hl : ¬ l < k := fun z => by
      have h1 : s + l ∈ exN ((s, k) :: u) := List.mem_append.2 (.inl (List.mem_range'_1.2 (by omega)))
      have h2 : s + l ∈ List.range' s l ++ exN r := (h _).2 h1
      rcases List.mem_append.1 h2 with h2 | h2
      · have := (List.mem_range'_1.1 h2).2; omega
      · exact absurd (in1 _ h2) (Nat.lt_irrefl _)
    have hk : ¬ k < l := fun z => by
      have h1 : s + k ∈ exN ((s, l) :: r) := List.mem_append.2 (.inl (List.mem_range'_1.2 (by omega)))
      have h2 : s + k ∈ List.range' s k ++ exN u := (h _).1 h1
      rcases List.mem_append.1 h2 with h2 | h2
      · have := (List.mem_range'_1.1 h2).2; omega
      · exact absurd (in2 _ h2) (Nat.lt_irrefl _)
    obtain rfl : l = k := by omega
    have : r = u := gap_uniq g4 f4 fun x => by
      constructor
      · intro hx
        have h2 : x ∈ List.range' s l ++ exN u := (h x).1 (List.mem_append.2 (.inr hx))
        rcases List.mem_append.1 h2 with h2 | h2
        · have := (List.mem_range'_1.1 h2).2; have := in1 x hx; omega
        · exact h2
      · intro hx
        have h2 : x ∈ List.range' s l ++ exN r := (h x).2 (List.mem_append.2 (.inr hx))
        rcases List.mem_append.1 h2 with h2 | h2
        · have := (List.mem_range'_1.1 h2).2; have := in2 x hx; omega
        · exact h2
    rw [this]
/-- The spans of the first bits, the last first. -/
def accN (f : Nat → Bool) : Nat → List (Nat × Nat)
  | 0 => []
  | j + 1 => if f j = true then spanStep (accN f j) j else accN f j
theorem accN_end (f : Nat → Bool) : ∀ j q r, accN f j = q :: r → q.1 + q.2 ≤ j
  | 0, q, r, e => by cases e
  | j + 1, q, r, e => by
    unfold accN at e
    have ih := accN_end f j
    split at e
    · cases ha : accN f j with
      | nil => rw [ha] at e; simp only [spanStep, List.cons.injEq] at e; rw [← e.1]; exact Nat.le_refl _
      | cons x y =>
        obtain ⟨s, l⟩ := x
        have := ih _ _ ha
        simp only at this
        rw [ha] at e
        unfold spanStep at e
        simp only at e
        cases hb : Nat.beq (s + l) j with
        | true => rw [hb] at e; simp only [cond_true, List.cons.injEq] at e; rw [← e.1]; simp only; omega
        | false => rw [hb] at e; simp only [cond_false, List.cons.injEq] at e; rw [← e.1]; exact Nat.le_refl _
    · have := ih q r e; omega
theorem accN_yes {f : Nat → Bool} {j : Nat} (h : f j = true) : ∃ q r, accN f (j + 1) = q :: r ∧ q.1 + q.2 = j + 1 := by
  show ∃ q r, (if f j = true then spanStep (accN f j) j else accN f j) = q :: r ∧ q.1 + q.2 = j + 1
  rw [if_pos h]
  cases ha : accN f j with
  | nil => exact ⟨_, _, rfl, rfl⟩
  | cons x y =>
    obtain ⟨s, l⟩ := x
    unfold spanStep
    simp only
    cases hb : Nat.beq (s + l) j with
    | true =>
      have := Nat.eq_of_beq_eq_true hb
      exact ⟨_, _, rfl, by show s + (l + 1) = j + 1; omega⟩
    | false => exact ⟨_, _, rfl, rfl⟩
theorem accN_no {f : Nat → Bool} {j : Nat} (h : f j = false) : ∀ q r, accN f (j + 1) = q :: r → q.1 + q.2 < j + 1 := by
  intro q r e
  have e : (if f j = true then spanStep (accN f j) j else accN f j) = q :: r := e
  rw [if_neg (by rw [h]; decide)] at e
  have := accN_end f j q r e
  omega
theorem accN_len (f : Nat → Bool) : ∀ j, (accN f j).length ≤ j
  | 0 => Nat.le_refl _
  | j + 1 => by
    have ih := accN_len f j
    show (if f j = true then spanStep (accN f j) j else accN f j).length ≤ j + 1
    split
    · cases ha : accN f j with
      | nil => exact Nat.succ_le_succ (Nat.zero_le _)
      | cons x y =>
        obtain ⟨s, l⟩ := x
        rw [ha] at ih
        unfold spanStep
        simp only
        cases Nat.beq (s + l) j <;> simp_all <;> omega
    · omega
theorem accN_spans (f : Nat → Bool) : ∀ (m n : Nat), spansC ((List.range' n m).map fun j => .bool (f j)) n (accN f n) = some (accN f (n + m))
  | 0, n => rfl
  | m + 1, n => by
    rw [List.range'_succ, List.map_cons]
    unfold spansC
    have e : cond (f n) (spanStep (accN f n) n) (accN f n) = accN f (n + 1) := by
      show _ = (if f n = true then spanStep (accN f n) n else accN f n)
      cases f n <;> rfl
    rw [e, accN_spans f m (n + 1), show n + 1 + m = n + (m + 1) by omega]
theorem accN_all (f : Nat → Bool) : GapR (accN f 4096) ∧ ∀ x, x ∈ exN (accN f 4096).reverse ↔ x < 4096 ∧ f x = true := by
  obtain ⟨acc, h1, h2, h3⟩ := spansC_law f 4096 0 [] (Nat.le_refl _) trivial (fun q r e => by cases e)
  have h4 := accN_spans f 4096 0
  rw [show accN f 0 = [] from rfl, h1] at h4
  simp only [Option.some.injEq] at h4
  rw [show 0 + 4096 = 4096 from rfl] at h4
  rw [← h4]
  refine ⟨h2, fun x => ?_⟩
  rw [h3]
  have e0 : exN ([] : List (Nat × Nat)).reverse = [] := rfl
  rw [e0, List.nil_append, List.mem_filter, List.mem_range'_1]
  exact ⟨fun z => ⟨by omega, z.2⟩, fun z => ⟨⟨Nat.zero_le _, by omega⟩, z.2⟩⟩
theorem eSpan2 : ElemOk Try.prog 52 87 2 16 := ElemOk_of (by kernel_rfl)
section
variable {K : Xs} {h : AH}
theorem refSet01 (hk : K 20 = none) (f : Nat → Bool) :
    Wf Try.prog K 20 [.agg ((List.range 4096).map fun j => Value.bool (f j)).toArray] h fun v h' => SetAt h' v (fun x => x < 4096 ∧ f x = true) ∧ Old h h' := by
  have hget : ∀ j, j < 4096 → ((List.range 4096).map fun j => Value.bool (f j))[j]? = some (.bool (f j)) := fun j hj => by simp [hj]
  generalize hla : ((List.range 4096).map fun j => Value.bool (f j)) = la at hget
  refine vc_aquiferref01_Set hk _ h _ fun g0 e0 g1 e1 => ?_
  have o0 := old_of_alloc e0
  have n0 := next_of_alloc e0
  have o1 := old_of_alloc e1
  have n1 := next_of_alloc e1
  have c1 : g1.get h.next = some (.cells la 50 false) := (o1.2 _ (by omega)).trans (get_of_alloc e0)
  refine ⟨fun p n c i k g => ∃ j : Nat, i = j ∧ j ≤ 4096 ∧ 4096 - j = k ∧ OldB g0.next g1 g ∧ Grow g0.next g 87 2 p n c (flat (accN f j)), ⟨_, 0, rfl, by decide, rfl, OldB.refl _ _, Grow.lit e1 rfl (Nat.le_refl _)⟩, ?_⟩
  rintro k3 g4 p6 n7 c8 i9 ⟨j, rfl, hj, rfl, o4, G4⟩
  have hn7 : n7 = (accN f j).length := by have := G4.1; rw [flat_len] at this; omega
  have hle := accN_len f j
  have c4 : g4.get h.next = _ := (o4.2 _ (by omega)).trans c1
  refine ⟨fun z => ?_, fun z => ?_⟩
  · have hj' : j < 4096 := by omega
    have ldf : ∀ {x : Nat}, x < 4096 → ld1 g4 h.next (0 + Int.toNat (x : Int) * 1) = some (.bool (f x)) := fun {x} hx => by
      rw [Int.toNat_natCast, Nat.mul_one, Nat.zero_add]
      exact ld1_at c4 (hget x hx)
    refine ⟨by omega, by omega, ?_⟩
    cases hf : f j with
    | false =>
      refine .inr ⟨by rw [ldf hj', hf], fun i32 e32 => ?_⟩
      have e32 := i64w e32 (by omega) (by omega)
      refine ⟨_, by omega, j + 1, by rw [e32]; rfl, hj', rfl, o4, ?_⟩
      show Grow _ _ _ _ _ _ _ (flat (if f j = true then spanStep (accN f j) j else accN f j))
      rw [hf]
      exact G4
    | true =>
      have eacc : accN f (j + 1) = spanStep (accN f j) j := by
        show (if f j = true then spanStep (accN f j) j else accN f j) = _
        rw [if_pos hf]
      have push : spanStep (accN f j) j = (j, 1) :: accN f j → ∀ g26 : AH, g26 = g4.alloc (.cells [.int .i64 (j : Nat), .int .i64 1] 87 false) →
          ∃ (p27 : Option Addr) (n28 c29 : Nat) (h30 : AH), aBuiltin Try.prog g26 .append #[52, 52] [.slice p6 n7 c8, .slice (some ⟨g4.next, 0, none⟩) 1 1] = some (.slice p27 n28 c29, h30) ∧
            (∀ i31 : Int, i31 = IntKind.wrap .i64 ((j : Int) + 1) → ∃ j5, j5 < 4096 - j ∧ ∃ j_1 : Nat, i31 = j_1 ∧ j_1 ≤ 4096 ∧ 4096 - j_1 = j5 ∧ OldB g0.next g1 h30 ∧ Grow g0.next h30 87 2 p27 n28 c29 (flat (accN f j_1))) := by
        intro es g26 e26
        obtain ⟨p', c', g30, k30, G30, ob, -, -⟩ := G4.push eSpan2 (by have := o4.1; omega) (m := 1) e26 rfl (by unfold roomMax; omega) (by omega)
        refine ⟨p', _, c', g30, k30, fun i31 e31 => ?_⟩
        have e31 := i64w e31 (by omega) (by omega)
        exact ⟨_, by omega, j + 1, by rw [e31]; rfl, hj', rfl, o4.trans ob, by rw [eacc, es]; exact G30⟩
      refine .inl ⟨by rw [ldf hj', hf], fun z0 => ?_, fun z0 => ?_⟩
      · obtain ⟨y, rfl⟩ : ∃ y, j = y + 1 := ⟨j - 1, by omega⟩
        intro i10 e10
        have e10 := i64w e10 (by omega) (by omega)
        have e10 : i10 = (y : Nat) := by omega
        subst e10
        refine ⟨by omega, by omega, ?_⟩
        cases hy : f y with
        | false =>
          refine .inr ⟨by rw [ldf (by omega), hy], fun g20 e20 => push ?_ g20 e20⟩
          cases ha : accN f (y + 1) with
          | nil => rfl
          | cons q r =>
            obtain ⟨s, l⟩ := q
            have := accN_no hy _ _ ha
            simp only at this
            unfold spanStep
            simp only
            have hb : Nat.beq (s + l) (y + 1) = false := by
              cases hb : Nat.beq (s + l) (y + 1) with
              | false => rfl
              | true => have := Nat.eq_of_beq_eq_true hb; omega
            rw [hb]
            rfl
        | true =>
          obtain ⟨⟨s, l⟩, r, ha, hsl⟩ := accN_yes hy
          simp only at hsl
          have es : spanStep (accN f (y + 1)) (y + 1) = (s, l + 1) :: r := by
            rw [ha]
            unfold spanStep
            simp only
            have hb : Nat.beq (s + l) (y + 1) = true := by rw [hsl]; exact Nat.beq_refl _
            rw [hb]
            rfl
          rw [es] at eacc
          rw [ha] at G4 hn7 hle
          simp only [List.length_cons] at hn7 hle
          refine .inl ⟨by rw [ldf (by omega), hy], fun i11 e11 => ?_⟩
          have e11 := i64w e11 (by omega) (by omega)
          have e11 : i11 = (r.length : Nat) := by omega
          subst e11
          rcases G4.2 with ⟨-, zz, -⟩ | ⟨b, rfl, hlb, hbn, hgb, hcc⟩
          · omega
          have hl1 := flat_l s l r
          refine derefP_at ⟨by omega, by omega, _, by rw [Int.toNat_natCast, Nat.zero_add]; exact ld1_at hgb hl1, fun i15 e15 => derefP_at ⟨by omega, by omega, ?_⟩⟩
          have hb := accN_end f (y + 1) _ _ ha
          simp only at hb
          have e15 := i64w e15 (by omega) (by omega)
          have e15 : i15 = ((l + 1 : Nat) : Int) := by omega
          subst e15
          refine ⟨_, by rw [Int.toNat_natCast, Nat.zero_add]; exact st1_of hgb (by rw [flat_len]; simp only [List.length_cons]; omega), fun i19 e19 => ?_⟩
          have e19 := i64w e19 (by omega) (by omega)
          refine ⟨_, by omega, y + 1 + 1, by rw [e19]; rfl, hj', rfl, OldB.set o4 hlb _, ?_⟩
          rw [eacc, flat_set]
          exact ⟨by have := G4.1; rw [flat_len] at this ⊢; simpa using this, .inr ⟨b, rfl, hlb, hbn, get_set_self _ _ _, hcc⟩⟩
      · obtain rfl : j = 0 := by omega
        exact fun g26 e26 => push rfl g26 e26
  · obtain rfl : j = 4096 := by omega
    obtain ⟨a1, a2⟩ := accN_all f
    refine ⟨⟨_, _, _, (accN f 4096).reverse, rfl, G4.form, by rw [← flat_spC]; exact G4.shows, Gap_rev a1, by omega, a2⟩, ⟨by have := o4.1; omega, fun c hc => by rw [o4.2 c (by omega), o1.2 c (by omega), o0.2 c hc]⟩⟩
theorem kSpan {x y : Int} (hx : (Lit.int .i64 x).wf = true) (hy : (Lit.int .i64 y).wf = true) : keyA Try.prog 87 (.agg #[.int .i64 x, .int .i64 y]) = some [.int .i64 x, .int .i64 y] := by
  rw [aKey_eq (by simp [Value.formed]), aKey_structN Try.underlying87 (d := 39) rfl]
  have k3 := aKey_intN (P := Try.prog) Try.underlying3 (m := 39) (d := 38) rfl x
  have k4 := aKey_intN (P := Try.prog) Try.underlying3 (m := 39) (d := 38) rfl y
  rw [if_pos hx] at k3
  rw [if_pos hy] at k4
  generalize Try.prog.keyLits 39 = KL at k3 k4 ⊢
  simp [k3, k4]
theorem lits2 {a b x y : Int} : litsEq [.int .i64 a, .int .i64 b] [.int .i64 x, .int .i64 y] = decide (a = x ∧ b = y) := by
  by_cases h1 : a = x <;> by_cases h2 : b = y <;> simp [litsEq, litEq, h1, h2]
theorem nat_wf {x : Nat} (h : x ≤ 4096) : (Lit.int .i64 (x : Nat)).wf = true := by
  simp [Lit.wf, IntKind.min, IntKind.max, IntKind.signed, IntKind.bits]
  omega
theorem refSame01 (hk : K 18 = none) {v1 v2 : Value} {f1 f2 : Nat → Prop} (s1 : SetAt h v1 f1) (s2 : SetAt h v2 f2) (hs : ∀ x, f1 x ↔ f2 x) :
    Wf Try.prog K 18 [v1, v2] h fun v h' => v = .bool true ∧ h = h' := by
  obtain ⟨p, n, c, sp, rfl, -, S1, G1, hn1, m1⟩ := s1
  obtain ⟨q, k, e, sq, rfl, -, S2, G2, hn2, m2⟩ := s2
  obtain rfl : sp = sq := gap_uniq G1 G2 fun x => (m1 x).trans ((hs x).trans (m2 x).symm)
  have h1 : n = sp.length := by have := S1.1; rw [spC_len] at this; omega
  have h2 : k = sp.length := by have := S2.1; rw [spC_len] at this; omega
  subst h1
  subst h2
  refine vc_aquiferref01_Same hk _ _ _ _ _ _ h _ ⟨fun _ => ?_, fun z => absurd rfl z⟩
  refine ⟨fun i k g => ∃ j : Nat, i = j ∧ j ≤ sp.length ∧ sp.length - j = k ∧ h = g, ⟨_, 0, rfl, Nat.zero_le _, rfl, rfl⟩, ?_⟩
  rintro k g i ⟨j, rfl, hj, rfl, rfl⟩
  refine ⟨fun z => ?_, fun z => ⟨rfl, rfl⟩⟩
  have hj' : j < sp.length := by omega
  obtain ⟨b1, off1, rfl, hld1, -⟩ := S1.getN hj'
  obtain ⟨b2, off2, rfl, hld2, -⟩ := S2.getN hj'
  rw [spC_get sp j hj'] at hld1 hld2
  have ga := G1.at j hj'
  have kk := kSpan (nat_wf (x := sp[j].1) (by omega)) (nat_wf (x := sp[j].2) (by omega))
  refine derefP_at ⟨by omega, z, _, _, by rw [Int.toNat_natCast]; exact hld1, derefP_at ⟨by omega, z, _, _, by rw [Int.toNat_natCast]; exact hld2, _, _, kk, kk, fun y i15 e15 => ?_, fun y => ?_⟩⟩
  · have e15 := i64w e15 (by omega) (by omega)
    exact ⟨_, by omega, j + 1, by rw [e15]; rfl, hj', rfl, rfl⟩
  · rw [lits2] at y
    simp at y
end
end Go.Am
