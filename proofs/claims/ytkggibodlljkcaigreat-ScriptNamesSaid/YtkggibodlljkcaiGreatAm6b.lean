/-
  SETS AS SPANS: what is told of them; appending to grown slices.
-/
import Derived.Test.YtkggibodlljkcaiGreatAm6a
set_option linter.unusedVariables false
set_option linter.unusedSimpArgs false
namespace Go.Am
/-- One number more, behind all that were; the last span first. -/
def spanStep (acc : List (Nat × Nat)) (n : Nat) : List (Nat × Nat) :=
  match acc with
  | (s, l) :: r => cond (Nat.beq (s + l) n) ((s, l + 1) :: r) ((n, 1) :: (s, l) :: r)
  | [] => [(n, 1)]
/-- The spans of the numbers whose cells say true. -/
def spansC : List Value → Nat → List (Nat × Nat) → Option (List (Nat × Nat))
  | [], _, acc => some acc
  | .bool b :: r, n, acc => spansC r (n + 1) (cond b (spanStep acc n) acc)
  | _ :: _, _, _ => none
/-- The cells of spans, the last span first. -/
def flat : List (Nat × Nat) → List Value
  | [] => []
  | (s, l) :: r => flat r ++ [.int .i64 (.ofNat s), .int .i64 (.ofNat l)]
theorem flat_len : ∀ acc, (flat acc).length = 2 * acc.length
  | [] => rfl
  | (s, l) :: r => by simp [flat, flat_len r]; omega
theorem flat_s (s l : Nat) (r : List (Nat × Nat)) : cellAt (flat ((s, l) :: r)) (r.length * 2) = some (.int .i64 s) := by
  have := flat_len r
  simp only [cellAt, flat]
  rw [List.getElem?_append_right (by omega), show r.length * 2 - (flat r).length = 0 by omega]
  rfl
theorem flat_l (s l : Nat) (r : List (Nat × Nat)) : cellAt (flat ((s, l) :: r)) (r.length * 2 + 1) = some (.int .i64 l) := by
  have := flat_len r
  simp only [cellAt, flat]
  rw [List.getElem?_append_right (by omega), show r.length * 2 + 1 - (flat r).length = 1 by omega]
  rfl
theorem flat_set (s l m : Nat) (r : List (Nat × Nat)) : (flat ((s, l) :: r)).set (r.length * 2 + 1) (.int .i64 m) = flat ((s, m) :: r) := by
  have := flat_len r
  simp only [flat]
  rw [List.set_append_right _ _ (by omega), show r.length * 2 + 1 - (flat r).length = 1 by omega]
  rfl
/-- A slice that was grown: m elements in the block b. -/
def grownV (m b : Nat) : Value := match m with | 0 => .slice none 0 0 | m + 1 => .slice (some ⟨b, 0, none⟩) (m + 1) openCap
section
variable {P : Program} {h : AH}
theorem aAppend_nil {st elem b : Nat} {i : TypeInfo} {z : Value} {new : List Value} {e2 : TypeId} {ro : Bool} (h1 : P.underlying st = some (.slice elem)) (h2 : P.info? elem = some i) (h3 : i.zero = some z) (h4 : z.cells.size = i.size) (h5 : 0 < i.size)
    (h6 : new.length = i.size) (h7 : h.get b = some (.cells new e2 ro)) (h8 : i.bytes ≤ roomMax) :
    aAppend P h st false (.slice none 0 0) (.slice (some ⟨b, 0, none⟩) 1 1) = some (.slice (some ⟨h.next, 0, none⟩) 1 openCap, h.alloc (.cells new elem false)) := by
  obtain ⟨k, hk⟩ : ∃ k, i.size = k + 1 := ⟨i.size - 1, by omega⟩
  have hf : firstC h i.size 1 (.slice (some ⟨b, 0, none⟩) 1 1) = some new := by
    simp only [firstC, Nat.one_mul, hk, h7]
    rw [if_pos ⟨Nat.le_refl _, by omega⟩]
    simp [← hk, ← h6]
  unfold aAppend
  rw [h1]
  simp only [h2, lenV, hf, h3]
  simp [firstC, h4, h5, h6, openCap]
  simp [roomMax] at h8 ⊢
  exact h8
theorem aAppend_open {st elem b b0 m : Nat} {i : TypeInfo} {z : Value} {old new : List Value} {e2 : TypeId} {ro : Bool} (h1 : P.underlying st = some (.slice elem)) (h2 : P.info? elem = some i) (h3 : i.zero = some z) (h4 : z.cells.size = i.size) (h5 : 0 < i.size)
    (h6 : new.length = i.size) (h7 : h.get b = some (.cells new e2 ro)) (h8 : (m + 1) * i.bytes ≤ roomMax) (h9 : h.get b0 = some (.cells old elem false)) (h10 : old.length = m * i.size) (h11 : m + 1 ≤ 9223372036854775807) (h12 : 0 < m) :
    aAppend P h st false (.slice (some ⟨b0, 0, none⟩) m openCap) (.slice (some ⟨b, 0, none⟩) 1 1) = some (.slice (some ⟨h.next, 0, none⟩) (m + 1) openCap, (h.del b0).alloc (.cells (old ++ new) elem false)) := by
  obtain ⟨k, hk⟩ : ∃ k, i.size = k + 1 := ⟨i.size - 1, by omega⟩
  have hf : firstC h i.size 1 (.slice (some ⟨b, 0, none⟩) 1 1) = some new := by
    simp only [firstC, Nat.one_mul, hk, h7]
    rw [if_pos ⟨Nat.le_refl _, by omega⟩]
    simp [← hk, ← h6]
  have hg : firstC h i.size m (.slice (some ⟨b0, 0, none⟩) m openCap) = some old := by
    have : 0 < m * i.size := Nat.mul_pos h12 h5
    obtain ⟨q, hq⟩ : ∃ q, m * i.size = q + 1 := ⟨m * i.size - 1, by omega⟩
    simp only [firstC, hq, h9]
    rw [if_pos ⟨Nat.le_refl _, by omega⟩]
    simp [← hq, ← h10]
  unfold aAppend
  rw [h1]
  simp only [h2, lenV, hf, hg, h3]
  rw [if_pos ⟨h4, h5, by omega, h10⟩, if_pos trivial]
  simp only [h9]
  rw [if_pos ⟨trivial, h8, h11⟩]
end
/-! ## The spans of a set of bits -/
def xSpans (el : TypeId) : List Value → AH → Option (Value × AH)
  | [.pointer (some ⟨b, off, none⟩)], h =>
    match h.get b with
    | some (.cells cs _ _) =>
      match spansC ((cs.drop off).take 4096) 0 [] with
      | some acc => cond (Nat.beq off 0 && Nat.ble 4096 cs.length && Nat.blt b h.next)
          (match acc with
           | [] => some (.slice none 0 0, h)
           | x :: r => some (.slice (some ⟨h.next + 2 * r.length + 1, 0, none⟩) (r.length + 1) openCap, { tr := h.tr.set (h.next + 2 * r.length + 1) (.cells (flat (x :: r)) el false), next := h.next + 2 * r.length + 2 })) none
      | none => none
    | _ => none
  | _, _ => none
end Go.Am
