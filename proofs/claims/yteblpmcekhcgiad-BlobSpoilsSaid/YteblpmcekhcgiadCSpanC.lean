/-
  WHAT THE TOLD SPANS ARE: a set, and just the numbers whose bits are set.
-/
import Derived.Test.YteblpmcekhcgiadCSpan
import Derived.Test.YteblpmcekhcgiadAmF
set_option linter.unusedVariables false
set_option linter.unusedSimpArgs false
namespace Go.Am
open Go.Proofs
/-- Spans, the last first. -/
def GapR : List (Nat × Nat) → Prop
  | [] => True
  | (s, l) :: r => 1 ≤ l ∧ s + l ≤ 4096 ∧ (∀ q r', r = q :: r' → q.1 + q.2 < s) ∧ GapR r
theorem Gap_app : ∀ {e : Int} {sp : List (Nat × Nat)} {s l : Nat}, Gap e sp → e < s → (∀ q, sp.getLast? = some q → q.1 + q.2 < s) → 1 ≤ l → s + l ≤ 4096 → Gap e (sp ++ [(s, l)])
  | e, [], s, l, _, he, _, h1, h2 => ⟨he, h1, h2, trivial⟩
  | e, [q0], s, l, ⟨g1, g2, g3, g4⟩, he, hq, h1, h2 => ⟨g1, g2, g3, by have := hq q0 rfl; show ((q0.1 + q0.2 : Nat) : Int) < s; omega, h1, h2, trivial⟩
  | e, q0 :: q1 :: r, s, l, ⟨g1, g2, g3, g4⟩, he, hq, h1, h2 => ⟨g1, g2, g3, Gap_app (sp := q1 :: r) g4 (by
      have h5 := hq ((q1 :: r).getLast (by simp)) (by simp [List.getLast?_eq_some_getLast])
      have h6 := ex_low g4
      have h7 : (q1 :: r).getLast (by simp) ∈ q1 :: r := List.getLast_mem _
      obtain ⟨i, hi, e1⟩ := List.mem_iff_getElem.1 h7
      have h8 := g4.at i hi
      have h9 := h6 ((q1 :: r)[i].1) (by
        unfold exN
        rw [List.mem_flatten]
        exact ⟨_, List.mem_map_of_mem (List.getElem_mem hi), by rw [List.mem_range'_1]; omega⟩)
      rw [e1] at h9 h8
      omega) (fun q hq' => hq q (by rw [← hq']; simp [List.getLast?_cons_cons])) h1 h2⟩
theorem Gap_rev : ∀ {acc : List (Nat × Nat)}, GapR acc → Gap (-1) acc.reverse
  | [], _ => trivial
  | (s, l) :: r, ⟨g1, g2, g3, g4⟩ => by
    rw [List.reverse_cons]
    refine Gap_app (Gap_rev g4) (by omega) (fun q hq => ?_) g1 g2
    rw [List.getLast?_reverse] at hq
    cases r with
    | nil => simp at hq
    | cons q' r' =>
      simp only [List.head?_cons, Option.some.injEq] at hq
      subst hq
      exact g3 _ _ rfl
theorem flat_spC : ∀ acc : List (Nat × Nat), flat acc = spC acc.reverse
  | [] => rfl
  | (s, l) :: r => by
    rw [List.reverse_cons]
    show flat r ++ _ = _
    rw [flat_spC r]
    simp [spC]
theorem spansC_law (f : Nat → Bool) : ∀ (m n : Nat) (acc : List (Nat × Nat)), n + m ≤ 4096 → GapR acc → (∀ q r, acc = q :: r → q.1 + q.2 ≤ n) →
    ∃ acc', spansC ((List.range' n m).map fun j => .bool (f j)) n acc = some acc' ∧ GapR acc' ∧ exN acc'.reverse = exN acc.reverse ++ (List.range' n m).filter f
  | 0, n, acc, _, g, _ => ⟨acc, rfl, g, by simp⟩
  | m + 1, n, acc, hn, g, hl => by
    rw [List.range'_succ, List.map_cons, List.filter_cons]
    cases hf : f n with
    | false =>
      obtain ⟨acc', h1, h2, h3⟩ := spansC_law f m (n + 1) acc (by omega) g (fun q r e => by have := hl q r e; omega)
      exact ⟨acc', h1, h2, by rw [h3]; simp⟩
    | true =>
      have key : GapR (spanStep acc n) ∧ (∀ q r, spanStep acc n = q :: r → q.1 + q.2 ≤ n + 1) ∧ exN (spanStep acc n).reverse = exN acc.reverse ++ [n] := by
        cases acc with
        | nil => exact ⟨⟨by omega, by omega, fun q r' z => (by cases z), trivial⟩, fun q r e => by cases e; exact Nat.le_refl _, rfl⟩
        | cons q r =>
          obtain ⟨s, l⟩ := q
          obtain ⟨g1, g2, g3, g4⟩ := g
          have hq := hl (s, l) r rfl
          simp only at hq
          unfold spanStep
          simp only
          cases hb : Nat.beq (s + l) n with
          | true =>
            have hb := Nat.eq_of_beq_eq_true hb
            refine ⟨⟨by omega, by omega, g3, g4⟩, fun q' r' e => by cases e; show s + (l + 1) ≤ _; omega, ?_⟩
            simp only [cond_true, List.reverse_cons]
            unfold exN
            simp [List.range'_concat, hb]
          | false =>
            have hb := Nat.ne_of_beq_eq_false hb
            refine ⟨⟨by omega, by omega, fun q' r' e => by cases e; show s + l < n; omega, g1, g2, g3, g4⟩, fun q' r' e => by cases e; exact Nat.le_refl _, ?_⟩
            simp only [cond_false, List.reverse_cons]
            unfold exN
            simp
      obtain ⟨acc', h1, h2, h3⟩ := spansC_law f m (n + 1) (spanStep acc n) (by omega) key.1 key.2.1
      exact ⟨acc', h1, h2, by rw [h3, key.2.2]; simp⟩
end Go.Am
