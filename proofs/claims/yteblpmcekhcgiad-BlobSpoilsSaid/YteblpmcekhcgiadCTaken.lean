/-
  WHICH SECTORS ARE TAKEN: the set as spans, from what is told of it.
-/
import Derived.Test.YteblpmcekhcgiadCSpanC
import Derived.Test.YteblpmcekhcgiadCPile
set_option linter.unusedVariables false
set_option linter.unusedSimpArgs false
namespace Go.Am
open Go.Proofs
theorem allC_law (s : Nat) : ∀ (M : List Nat) (i : Nat) (N : List Nat), ∃ N', allC (natC .u8 M) s i N = some N' ∧ ∀ x, x ∈ N' ↔ x ∈ N ∨ ∃ j, x = i + j ∧ M[j]? = some s
  | [], i, N => ⟨N, rfl, fun x => ⟨.inl, fun z => z.elim id (fun ⟨j, _, hj⟩ => by simp at hj)⟩⟩
  | a :: M, i, N => by
    obtain ⟨N', h1, h2⟩ := allC_law s M (i + 1) (cond (Nat.beq a s) (N ++ [i]) N)
    refine ⟨N', h1, fun x => ?_⟩
    rw [h2 x]
    have hd : x ∈ (cond (Nat.beq a s) (N ++ [i]) N) ↔ x ∈ N ∨ (x = i ∧ a = s) := by
      cases hb : Nat.beq a s with
      | true => have := Nat.eq_of_beq_eq_true hb; simp [this]
      | false => have := Nat.ne_of_beq_eq_false hb; simp [this]
    rw [hd]
    constructor
    · rintro ((z | ⟨z1, z2⟩) | ⟨j, z1, z2⟩)
      · exact .inl z
      · exact .inr ⟨0, by omega, by simp [z2]⟩
      · exact .inr ⟨j + 1, by omega, by simpa using z2⟩
    · rintro (z | ⟨j, z1, z2⟩)
      · exact .inl (.inl z)
      · cases j with
        | zero => exact .inl (.inr ⟨by omega, by simpa using z2⟩)
        | succ j => exact .inr ⟨j, by omega, by simpa using z2⟩
theorem gap_len : ∀ {e : Int} {sp : List (Nat × Nat)}, Gap e sp → sp.length ≤ (exN sp).length
  | _, [], _ => Nat.zero_le _
  | e, (s, l) :: r, ⟨g1, g2, g3, g4⟩ => by
    have ih := gap_len g4
    have e1 : (exN ((s, l) :: r)).length = l + (exN r).length := by unfold exN; simp
    rw [e1]
    simp only [List.length_cons]
    have g2' : 1 ≤ l := g2
    omega
theorem xAll_eq {el : TypeId} {h : AH} {b s : Nat} {cs : List Value} {e : TypeId} {ro : Bool} {N : List Nat} {acc : List (Nat × Nat)} (h1 : h.get b = some (.cells cs e ro)) (h2 : allC (cs.take 1024) s 0 [] = some N) (h3 : 1024 ≤ cs.length) (h4 : b < h.next) (h5 : spansC (bitsL N) 0 [] = some acc) :
    xAll el [.pointer (some ⟨b, 0, none⟩), .int .u8 (.ofNat s)] h = some (spansR el acc h.tr (h.next + 2 * N.length + 1)) := by
  unfold xAll
  simp only [h1, List.drop_zero, h2, h5]
  have q1 : Nat.ble (0 + 1024) cs.length = true := Nat.ble_eq_true_of_le (by omega)
  have q2 : Nat.blt b h.next = true := by rw [Nat.blt_eq]; exact h4
  rw [q1, q2]
  rfl
/-- A set as spans lies there. -/
def SetAt (h : AH) (v : Value) (f : Nat → Prop) : Prop := ∃ p n c sp, v = .slice p n c ∧ (p = none ∨ ∃ b off, p = some ⟨b, off, none⟩) ∧ Shows h p n 2 (spC sp) ∧ Gap (-1) sp ∧ n ≤ 1000000 ∧ ∀ x, x ∈ exN sp ↔ f x
theorem spansR_at (el : TypeId) {h : AH} {N : List Nat} {n : Nat} (hn : h.next ≤ n) (hlt : ∀ x ∈ N, x < 4096) : ∃ acc, spansC (bitsL N) 0 [] = some acc ∧ SetAt (spansR el acc h.tr n).2 (spansR el acc h.tr n).1 (fun x => x ∈ N) ∧ (h.tr = h.tr → h.next ≤ (spansR el acc h.tr n).2.next ∧ ∀ c, c < h.next → (spansR el acc h.tr n).2.get c = h.get c) := by
  obtain ⟨acc, h1, h2, h3⟩ := spansC_law N.contains 4096 0 [] (Nat.le_refl _) trivial (fun q r e => by cases e)
  have hg := Gap_rev h2
  have hl := gap_len hg
  rw [h3] at hl
  have hl2 : acc.length ≤ 4096 := by
    have q := List.length_filter_le N.contains (List.range' 0 4096)
    simp only [List.length_reverse, List.length_range'] at hl q
    have e0 : exN ([] : List (Nat × Nat)).reverse = [] := rfl
    rw [e0, List.nil_append] at hl
    omega
  have hm : ∀ x, x ∈ exN acc.reverse ↔ x ∈ N := fun x => by
    rw [h3]
    have e0 : exN ([] : List (Nat × Nat)).reverse = [] := rfl
    rw [e0, List.nil_append, List.mem_filter, List.mem_range'_1]
    simp only [List.contains_eq_mem, decide_eq_true_eq]
    exact ⟨fun z => z.2, fun z => ⟨by have := hlt x z; omega, z⟩⟩
  refine ⟨acc, by unfold bitsL; rw [List.range_eq_range']; exact h1, ?_, ?_⟩
  · cases acc with
    | nil => exact ⟨none, 0, 0, [], rfl, .inl rfl, ⟨rfl, .inl rfl⟩, trivial, by decide, hm⟩
    | cons q r =>
      refine ⟨_, _, _, (q :: r).reverse, rfl, .inr ⟨_, 0, rfl⟩, ⟨by rw [spC_len, List.length_reverse]; rfl, .inr ⟨_, 0, flat (q :: r), el, false, rfl, ?_, ?_, ?_, ?_⟩⟩, hg, by simp only [List.length_cons] at hl2; omega, hm⟩
      · show n + 2 * r.length + 1 < n + 2 * r.length + 2; omega
      · show Tr.get (Tr.set _ _ _) _ = _
        rw [Tr.get_set, if_pos rfl]
      · rw [flat_len]; simp only [List.length_cons]; omega
      · rw [List.drop_zero, flat_spC, List.take_of_length_le]
        rw [spC_len, List.length_reverse]; simp only [List.length_cons]; omega
  · intro _
    cases acc with
    | nil => exact ⟨hn, fun c hc => rfl⟩
    | cons q r =>
      refine ⟨by show h.next ≤ n + 2 * r.length + 2; omega, fun c hc => ?_⟩
      show Tr.get (Tr.set _ _ _) _ = Tr.get _ _
      rw [Tr.get_set, if_neg (by omega)]
section
variable {K : Xs} {h : AH} {b : Nat} {M : List Nat}
theorem mapAll (ha : K 47 = some (.sum (xAll 115))) (m : MapO h b M) (s : Nat) :
    Wf Try.prog K 47 [.pointer (some ⟨b, 0, none⟩), .int .u8 s] h fun v h' => SetAt h' v (fun x => M[x]? = some s) ∧ Old h h' := by
  obtain ⟨N, h1, h2⟩ := allC_law s M 0 []
  have hl := m.1
  have h3 : ∀ x, x ∈ N ↔ M[x]? = some s := fun x => by
    rw [h2 x]
    exact ⟨fun z => z.elim (fun y => by simp at y) (fun ⟨j, e, q⟩ => by rw [show x = j by omega]; exact q), fun z => .inr ⟨x, by omega, z⟩⟩
  have hlt : ∀ x ∈ N, x < 4096 := fun x hx => by
    have := (List.getElem?_eq_some_iff.1 ((h3 x).1 hx)).1
    omega
  obtain ⟨acc, k1, k2, k3⟩ := spansR_at 115 (h := h) (N := N) (n := h.next + 2 * N.length + 1) (by omega) hlt
  have hx : xAll 115 [.pointer (some ⟨b, 0, none⟩), .int .u8 (.ofNat s)] h = some (spansR 115 acc h.tr (h.next + 2 * N.length + 1)) :=
    xAll_eq m.2.2 (by unfold mapC; rw [List.take_append_of_le_length (by rw [natC_len]; omega), List.take_of_length_le (by rw [natC_len]; omega)]; exact h1) (by rw [mapC_len]; omega) m.2.1 k1
  refine Wf_sum ha (v := (spansR 115 acc h.tr (h.next + 2 * N.length + 1)).1) (h' := (spansR 115 acc h.tr (h.next + 2 * N.length + 1)).2) hx (k3 rfl).1 ⟨?_, k3 rfl⟩
  obtain ⟨p, n, c, sp, q1, q2, q3, q4, q5, q6⟩ := k2
  exact ⟨p, n, c, sp, q1, q2, q3, q4, q5, fun x => (q6 x).trans (h3 x)⟩
end
end Go.Am
