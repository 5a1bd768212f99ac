/-
  THE SPANS OF BITS AND A SECTOR'S STATE, for the machine of the kernel.
-/
import Derived.Test.YtkggibodlljkcaiGreatAm6d
set_option linter.unusedVariables false
set_option linter.unusedSimpArgs false
namespace Go.Am
noncomputable def spansT (t : Tr Value) : Nat → Nat → Nat → List (Nat × Nat) → Option (List (Nat × Nat))
  | 0, _, _, acc => some acc
  | k + 1, off, n, acc => forceN off fun off => forceN n fun n => Tr.cellK t off fun v => onO1 (asBool v) fun b =>
      cnd b (spanK acc n fun acc => spansT t k (Nat.succ off) (Nat.succ n) acc) (spansT t k (Nat.succ off) (Nat.succ n) acc)
theorem spansT_C {t : Tr Value} : ∀ (k off n : Nat) (acc acc' : List (Nat × Nat)), spansT t k off n acc = some acc' → spansC (t.subL off k) n acc = some acc'
  | 0, off, n, acc, acc', h => by simpa [spansT, Tr.subL, spansC] using h
  | k + 1, off, n, acc, acc', h => by
    unfold spansT at h
    rw [forceN_eq, forceN_eq, Tr.cellK_cell] at h
    obtain ⟨b, g1, g2⟩ := onO1_some h
    have hv := asBool_some g1
    rw [cnd_eq] at g2
    simp only [Tr.subL, Tr.cellK_cell, hv, spansC]
    cases b with
    | true =>
      rw [cond_true, spanK_eq] at g2
      exact spansT_C k (off + 1) (n + 1) _ acc' g2
    | false =>
      rw [cond_false] at g2
      exact spansT_C k (off + 1) (n + 1) _ acc' g2
noncomputable def fSpans (el : TypeId) : List Value → FH → Option (Value × FH)
  | [.pointer (some ⟨b, off, none⟩)], h =>
    match h.get b with
    | some (.cells t m _ _) =>
      match spansT t 4096 off 0 [] with
      | some acc => cond (Nat.beq off 0 && Nat.ble 4096 m && Nat.blt b h.next) (some (spansF el acc h.tr h.next)) none
      | none => none
    | _ => none
  | _, _ => none
theorem spansF_next (el : TypeId) (acc : List (Nat × Nat)) (tr : Tr FObj) (n : Nat) : n ≤ (spansF el acc tr n).2.next := by
  cases acc with
  | nil => exact Nat.le_refl _
  | cons x r => simp only [spansF]; omega
theorem fSpans_ok {el : TypeId} {args : List Value} {h h' : FH} {v : Value} (hs : fSpans el args h = some (v, h')) : xSpans el args h.abs = some (v, h'.abs) ∧ h.next ≤ h'.next := by
  unfold fSpans at hs
  split at hs
  rotate_left
  · simp at hs
  rename_i b off
  split at hs
  rotate_left
  · simp at hs
  rename_i t m e ro hg
  split at hs
  rotate_left
  · simp at hs
  rename_i acc hacc
  obtain ⟨h1, h2⟩ := cond_some hs
  have h1' := h1
  simp only [Bool.and_eq_true] at h1
  have hoff := Nat.eq_of_beq_eq_true h1.1.1
  subst hoff
  have hle := Nat.le_of_ble_eq_true h1.1.2
  have hc := spansT_C _ _ _ _ _ hacc
  rw [subL_toL (t := t) (off := 0) (k := 4096) (n := m) (by omega)] at hc
  have hpair : spansF el acc h.tr h.next = (v, h') := h2
  constructor
  · simp only [xSpans, FH.abs_get, hg, Option.map_some, FObj.abs, length_toL, hc]
    have : (Nat.beq 0 0 && Nat.ble 4096 m && Nat.blt b h.abs.next) = true := h1'
    rw [this]
    simp only [cond_true]
    have h3 := spansF_abs el acc h.tr h.next
    rw [hpair] at h3
    have h4 : spansR el acc h.abs.tr h.abs.next = (v, h'.abs) := h3
    rw [← h4]
    cases acc <;> rfl
  · have : h' = (spansF el acc h.tr h.next).2 := by rw [hpair]
    rw [this]
    exact spansF_next _ _ _ _
noncomputable def fIs : List Value → FH → Option (Value × FH)
  | [.pointer (some ⟨b, off, none⟩), .int .i64 (.ofNat i), .int .u8 (.ofNat s)], h =>
    match h.get b with
    | some (.cells t m _ _) => cond (Nat.blt i 1024 && Nat.blt (off + i) m) (Tr.cellK t (off + i) fun v => onP (asNat v) fun k x => cnd (Nat.beq (kNum k) 4) (Bool.rec (motive := fun _ => Option (Value × FH)) (some (.bool false, h)) (some (.bool true, h)) (Nat.beq x s)) none) none
    | _ => none
  | _, _ => none
theorem fIs_ok {args : List Value} {h h' : FH} {v : Value} (hs : fIs args h = some (v, h')) : xIs args h.abs = some (v, h'.abs) ∧ h.next ≤ h'.next := by
  unfold fIs at hs
  split at hs
  rotate_left
  · simp at hs
  rename_i b off i s
  split at hs
  rotate_left
  · simp at hs
  rename_i t m e ro hg
  obtain ⟨h1, h2⟩ := cond_some' hs
  simp only [Bool.and_eq_true, Nat.blt_eq] at h1
  rw [Tr.cellK_cell] at h2
  obtain ⟨k, x, g1, g2⟩ := onP_some h2
  obtain ⟨g3, g4⟩ := cnd_some' g2
  have hv := asNat_some g1
  have hkd : k = .u8 := kNum_inj (k' := .u8) g3
  subst hkd
  have hcell : (toL t m)[off + i]? = some (.int .u8 (.ofNat x)) := by rw [get_toL, if_pos h1.2, hv]
  have hb : Nat.blt i 1024 = true := by rw [Nat.blt_eq]; exact h1.1
  simp only [xIs, FH.abs_get, hg, Option.map_some, FObj.abs, hcell, hb, cond_true]
  cases hx : Nat.beq x s with
  | true =>
    rw [hx] at g4
    simp only [Option.some.injEq, Prod.mk.injEq] at g4
    obtain ⟨rfl, rfl⟩ := g4
    exact ⟨rfl, Nat.le_refl _⟩
  | false =>
    rw [hx] at g4
    simp only [Option.some.injEq, Prod.mk.injEq] at g4
    obtain ⟨rfl, rfl⟩ := g4
    exact ⟨rfl, Nat.le_refl _⟩
end Go.Am
