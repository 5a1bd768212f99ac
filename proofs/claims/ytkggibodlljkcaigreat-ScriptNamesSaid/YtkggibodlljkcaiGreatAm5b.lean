/-
  THE FASTER MACHINE SAYS WHAT THE ABSTRACT MACHINE SAYS: memory and operations.
-/
import Derived.Test.YtkggibodlljkcaiGreatAm5a
set_option linter.unusedVariables false
set_option linter.unusedSimpArgs false
namespace Go.Am

namespace Tr
variable {α β : Type}
theorem get_map (f : α → β) : ∀ (t : Tr α) (n : Nat), (t.map f).get n = (t.get n).map f
  | .nil, n => rfl
  | .node v l r, n => by
    simp only [map, get]
    rw [get_map f l, get_map f r]
    cases Nat.beq n 0 <;> cases Nat.beq (n % 2) 1 <;> rfl
theorem map_setF (f : α → β) (v : Option α) : ∀ (k : Nat) (t : Tr α) (n : Nat), (setF v k t n).map f = setF (v.map f) k (t.map f) n
  | 0, t, n => rfl
  | k + 1, .nil, n => by
    simp only [setF, map]
    have i1 := map_setF f v k .nil (n / 2)
    have i2 := map_setF f v k .nil (n / 2 - 1)
    simp only [map] at i1 i2
    cases Nat.beq n 0 <;> cases Nat.beq (n % 2) 1 <;> simp [map, i1, i2]
  | k + 1, .node u l r, n => by
    simp only [setF, map]
    have i1 := map_setF f v k l (n / 2)
    have i2 := map_setF f v k r (n / 2 - 1)
    cases Nat.beq n 0 <;> cases Nat.beq (n % 2) 1 <;> simp [map, i1, i2]
theorem map_set (f : α → β) (t : Tr α) (n : Nat) (v : α) : (t.set n v).map f = (t.map f).set n (f v) := map_setF f (some v) _ _ _
theorem map_del (f : α → β) (t : Tr α) (n : Nat) : (t.del n).map f = (t.map f).del n := map_setF f none _ _ _
theorem cellK_eq {β : Type} (t : Tr Value) (i : Nat) (f : Value → β) : t.cellK i f = f (match t.get i with | some v => v | none => undef) := by
  unfold cellK
  rw [forceN_eq, getP_pt]
  cases t.get i <;> rfl
theorem cell_eq (t : Tr Value) (i : Nat) : t.cell i = match t.get i with | some v => v | none => undef := cellK_eq t i _
theorem cellK_cell {β : Type} (t : Tr Value) (i : Nat) (f : Value → β) : t.cellK i f = f (t.cell i) := by rw [cellK_eq, cell_eq]
theorem put1_eq (t : Tr Value) (i : Nat) (v : Value) : t.put1 i v = t.set i v := by
  unfold put1
  rw [forceN_eq, setP_pt]
theorem cell_set (t : Tr Value) (n m : Nat) (v : Value) : (t.set n v).cell m = if m = n then v else t.cell m := by
  rw [cell_eq, cell_eq]
  rw [get_set]
  by_cases h : m = n
  · simp [h]
  · simp [h]
theorem cell_setL : ∀ (vs : List Value) (t : Tr Value) (i m : Nat), (t.setL i vs).cell m = if i ≤ m ∧ m < i + vs.length then (vs[m - i]?).getD undef else t.cell m
  | [], t, i, m => by
    simp only [setL, List.length_nil]
    rw [if_neg (by omega)]
  | v :: vs, t, i, m => by
    simp only [setL]
    rw [cell_setL vs, put1_eq, cell_set]
    simp only [List.length_cons]
    by_cases h1 : m = i
    · subst h1
      rw [if_neg (by omega), if_pos rfl, if_pos (by omega)]
      simp
    · by_cases h2 : i + 1 ≤ m ∧ m < i + 1 + vs.length
      · rw [if_pos h2, if_pos (by omega)]
        obtain ⟨k, hk⟩ : ∃ k, m - i = k + 1 := ⟨m - i - 1, by omega⟩
        rw [hk, show m - (i + 1) = k by omega]
        simp
      · rw [if_neg h2, if_neg h1, if_neg (by omega)]
theorem length_subL (t : Tr Value) : ∀ (k i : Nat), (t.subL i k).length = k
  | 0, i => rfl
  | k + 1, i => by simp [subL, cellK_cell, length_subL t k]
theorem get_subL (t : Tr Value) : ∀ (k i j : Nat), (t.subL i k)[j]? = if j < k then some (t.cell (i + j)) else none
  | 0, i, j => by simp [subL]
  | k + 1, i, 0 => by simp [subL, cellK_cell]
  | k + 1, i, j + 1 => by
    simp only [subL, cellK_cell, List.getElem?_cons_succ]
    rw [get_subL t k (i + 1) j]
    by_cases h : j < k
    · rw [if_pos h, if_pos (by omega), show i + 1 + j = i + (j + 1) by omega]
    · rw [if_neg h, if_neg (by omega)]
theorem get_full {α : Type} (v : α) : ∀ (d n : Nat), n + 1 < 2 ^ d → (full v d).get n = some v
  | 0, n, h => by simp at h
  | d + 1, n, h => by
    simp only [full, get]
    rw [Nat.pow_succ] at h
    by_cases h0 : n = 0
    · subst h0; rfl
    · rw [beq_f h0, cond_false]
      by_cases h1 : n % 2 = 1
      · rw [beq_t h1, cond_true]
        exact get_full v d _ (by omega)
      · rw [beq_f h1, cond_false]
        exact get_full v d _ (by omega)
end Tr
theorem length_toL (t : Tr Value) (n : Nat) : (toL t n).length = n := Tr.length_subL t n 0
theorem get_toL (t : Tr Value) (n j : Nat) : (toL t n)[j]? = if j < n then some (t.cell j) else none := by
  unfold toL
  rw [Tr.get_subL]
  simp
theorem toL_setL {t : Tr Value} {off n : Nat} {vs : List Value} (h : off + vs.length ≤ n) : toL (t.setL off vs) n = (toL t n).take off ++ vs ++ (toL t n).drop (off + vs.length) := by
  apply List.ext_getElem?
  intro j
  rw [get_toL, Tr.cell_setL]
  by_cases h1 : j < off
  · rw [if_neg (show ¬(off ≤ j ∧ j < off + vs.length) by omega), if_pos (by omega), List.append_assoc, List.getElem?_append_left (by simp [length_toL]; omega), List.getElem?_take, if_pos h1, get_toL, if_pos (by omega)]
  · by_cases h2 : j < off + vs.length
    · rw [if_pos (by omega), if_pos (show off ≤ j ∧ j < off + vs.length by omega), List.append_assoc, List.getElem?_append_right (by simp [length_toL]; omega), List.getElem?_append_left (by simp [length_toL]; omega)]
      simp only [List.length_take, length_toL, Nat.min_eq_left (show off ≤ n by omega)]
      rw [List.getElem?_eq_getElem (by omega)]
      simp
    · rw [if_neg (show ¬(off ≤ j ∧ j < off + vs.length) by omega), List.getElem?_append_right (by simp [length_toL]; omega), List.getElem?_drop, get_toL]
      simp only [List.length_append, List.length_take, length_toL, Nat.min_eq_left (show off ≤ n by omega)]
      rw [show off + vs.length + (j - (off + vs.length)) = j by omega]
theorem toL_append (t : Tr Value) (m : Nat) (vs : List Value) : toL (t.setL m vs) (m + vs.length) = toL t m ++ vs := by
  apply List.ext_getElem?
  intro j
  rw [get_toL, Tr.cell_setL]
  by_cases h1 : j < m
  · rw [if_neg (show ¬(m ≤ j ∧ j < m + vs.length) by omega), if_pos (by omega), List.getElem?_append_left (by simp [length_toL]; omega), get_toL, if_pos h1]
  · rw [List.getElem?_append_right (by simp [length_toL]; omega)]
    simp only [length_toL]
    by_cases h2 : j < m + vs.length
    · rw [if_pos h2, if_pos (by omega), List.getElem?_eq_getElem (by omega)]
      simp
    · rw [if_neg h2, List.getElem?_eq_none (by omega)]
theorem subL_toL {t : Tr Value} {off k n : Nat} (h : off + k ≤ n) : t.subL off k = ((toL t n).drop off).take k := by
  apply List.ext_getElem?
  intro j
  rw [Tr.get_subL, List.getElem?_take, List.getElem?_drop, get_toL]
  by_cases h1 : j < k
  · rw [if_pos h1, if_pos h1, if_pos (by omega)]
  · rw [if_neg h1, if_neg h1]
theorem toL_ofList (l : List Value) : toL (Tr.nil.setL 0 l) l.length = l := by
  have := toL_append .nil 0 l
  simpa [toL, Tr.subL] using this
theorem toL_take {t : Tr Value} {k n : Nat} (h : k ≤ n) : toL t k = (toL t n).take k := by
  have := subL_toL (t := t) (off := 0) (k := k) (n := n) (by omega)
  simpa [toL] using this
theorem toL_full (v : Value) (n : Nat) : toL (Tr.full v (n.log2 + 1)) n = List.replicate n v := by
  apply List.ext_getElem?
  intro j
  rw [get_toL, List.getElem?_replicate]
  by_cases h : j < n
  · rw [if_pos h, if_pos h]
    rw [Tr.cell_eq, Tr.get_full]
    have := Nat.lt_log2_self (n := n)
    omega
  · rw [if_neg h, if_neg h]
theorem toL_zeros (z : List Value) (n : Nat) : toL (fZeros z n) (n * z.length) = (List.replicate n z).flatten := by
  unfold fZeros
  split
  · simp only [List.length_singleton, Nat.mul_one]
    rw [toL_full]
    induction n with
    | zero => rfl
    | succ n ih => rw [List.replicate_succ, List.replicate_succ, List.flatten_cons, ← ih]; rfl
  · have := toL_ofList ((List.replicate n z).flatten)
    simpa using this

namespace FH
theorem get_eq (h : FH) (b : Nat) : h.get b = h.tr.get b := by
  unfold FH.get
  rw [forceN_eq, Tr.getP_pt]
theorem set_eq (h : FH) (b : Nat) (o : FObj) : h.set b o = ⟨h.tr.set b o, h.next⟩ := by
  unfold FH.set
  rw [forceN_eq, Tr.setP_pt]
theorem del_eq (h : FH) (b : Nat) : h.del b = ⟨h.tr.del b, h.next⟩ := by
  unfold FH.del
  rw [forceN_eq, Tr.setP_none]
theorem alloc_eq (h : FH) (o : FObj) : h.alloc o = ⟨h.tr.set h.next o, h.next + 1⟩ := by
  unfold FH.alloc
  rw [forceN_eq, Tr.setP_pt]
theorem abs_get (h : FH) (b : Nat) : h.abs.get b = (h.get b).map FObj.abs := by
  rw [get_eq]
  exact Tr.get_map _ _ _
theorem abs_set (h : FH) (b : Nat) (o : FObj) : (h.set b o).abs = h.abs.set b o.abs := by
  rw [set_eq]
  exact congrArg (AH.mk · h.next) (Tr.map_set _ _ _ _)
theorem abs_del (h : FH) (b : Nat) : (h.del b).abs = h.abs.del b := by
  rw [del_eq]
  exact congrArg (AH.mk · h.next) (Tr.map_del _ _ _)
theorem abs_alloc (h : FH) (o : FObj) : (h.alloc o).abs = h.abs.alloc o.abs := by
  rw [alloc_eq]
  exact congrArg (AH.mk · (h.next + 1)) (Tr.map_set _ _ _ _)
theorem abs_next (h : FH) : h.abs.next = h.next := rfl
end FH

section
variable {P : Program} {h h' : FH}
theorem cond_some {α : Type} {b : Bool} {x y : α} (hs : cond b (some x) none = some y) : b = true ∧ x = y := by
  cases b
  · simp at hs
  · exact ⟨rfl, by simpa using hs⟩
theorem fLoad_abs {t : TypeId} {v x : Value} (hs : fLoad P h t v = some x) : aLoad P h.abs t v = some x := by
  unfold fLoad at hs
  split at hs
  rotate_left
  · simp at hs
  rename_i b off
  split at hs
  rotate_left
  · simp at hs
  rename_i c n e ro hg
  simp only [aLoad, FH.abs_get, hg, Option.map_some, FObj.abs]
  split at hs
  · rename_i ha
    obtain ⟨h1, h2⟩ := cond_some hs
    have h1 := Nat.le_of_ble_eq_true h1
    rw [ha]
    simp only [length_toL]
    rw [if_pos h1, ← h2, subL_toL h1]
  · rename_i ha
    obtain ⟨h1, h2⟩ := cond_some hs
    rw [Nat.blt_eq] at h1
    rw [ha]
    simp only
    rw [get_toL, if_pos h1, h2]
  · simp at hs
theorem fStoreCells_abs {b off : Nat} {vs : List Value} (hs : fStoreCells h b off vs = some h') : aStoreCells h.abs b off vs = some h'.abs := by
  unfold fStoreCells at hs
  split at hs
  rotate_left
  · simp at hs
  rename_i c n e hg
  obtain ⟨h1, rfl⟩ := cond_some hs
  have h1 := Nat.le_of_ble_eq_true h1
  simp only [aStoreCells, FH.abs_get, hg, Option.map_some, FObj.abs, length_toL]
  rw [if_pos h1, FH.abs_set]
  simp only [FObj.abs]
  rw [toL_setL h1]
theorem okStore_iff {t : TypeId} {n : Nat} (hs : okStore P t n = true) : n = P.cellsOf t ∧ (P.info? t).isSome = true := by
  unfold okStore at hs
  rw [Bool.and_eq_true] at hs
  exact ⟨Nat.eq_of_beq_eq_true hs.1, hs.2⟩
theorem cond_some' {α : Type} {b : Bool} {x : Option α} {y : α} (hs : cond b x none = some y) : b = true ∧ x = some y := by
  cases b
  · simp at hs
  · exact ⟨rfl, by simpa using hs⟩
theorem fStore_abs {t : TypeId} {a v : Value} (hs : fStore P h t a v = some h') : aStore P h.abs t a v = some h'.abs := by
  unfold fStore at hs
  split at hs
  rotate_left
  · simp at hs
  rename_i b off
  have key : ∀ v : Value, (∀ vs, v ≠ .tuple vs) → v.cells.size = P.cellsOf t ∧ (P.info? t).isSome = true → fStoreCells h b off v.cells.toList = some h' → aStore P h.abs t (.pointer (some ⟨b, off, none⟩)) v = some h'.abs := by
    intro v hv h3 h2
    have ha : aStore P h.abs t (.pointer (some ⟨b, off, none⟩)) v = if v.cells.size = P.cellsOf t ∧ (P.info? t).isSome = true then aStoreCells h.abs b off v.cells.toList else none := by
      cases v <;> first | rfl | exact (hv _ rfl).elim
    rw [ha, if_pos h3]
    exact fStoreCells_abs h2
  split at hs
  · simp at hs
  · rename_i cs
    obtain ⟨h1, h2⟩ := cond_some' hs
    exact key (.agg cs) (fun _ e => by cases e) (okStore_iff h1) h2
  · rename_i h1 h2
    obtain ⟨g1, g2⟩ := cond_some' hs
    have h3 := okStore_iff g1
    have hc : v.cells = #[v] := by
      cases v <;> first | rfl | exact (h2 _ rfl).elim
    exact key v (fun vs e => h1 vs e) (by rw [hc]; exact h3) (by rw [hc]; exact g2)
def elemAt (h : AH) (b : Nat) : Option TypeId := match h.get b with | some (.cells _ e _) => some e | _ => none
theorem aSlice_dep {h1 h2 : AH} {t : TypeId} {x : Value} {lo hi mx : Option Value} (hd : ∀ b off len, x = .slice (some ⟨b, off, none⟩) len openCap → elemAt h1 b = elemAt h2 b) : aSlice P h1 t x lo hi mx = aSlice P h2 t x lo hi mx := by
  unfold aSlice
  split <;> first | rfl | skip
  rename_i elem b off len cap hu
  split
  rotate_left
  · rfl
  by_cases hc : cap = openCap
  · subst hc
    have := hd b off len rfl
    rw [if_pos rfl, if_pos rfl]
    unfold elemAt at this
    cases g1 : h1.get b with
    | none =>
      cases g2 : h2.get b with
      | none => rfl
      | some o2 => rw [g1, g2] at this; cases o2 <;> simp at this <;> (cases aBounds len len lo hi mx <;> rfl)
    | some o1 =>
      cases g2 : h2.get b with
      | none => rw [g1, g2] at this; cases o1 <;> simp at this <;> (cases aBounds len len lo hi mx <;> rfl)
      | some o2 =>
        rw [g1, g2] at this
        cases o1 <;> cases o2 <;> simp at this <;> first | (subst this; cases aBounds len len lo hi mx <;> rfl) | (cases aBounds len len lo hi mx <;> rfl)
  · rw [if_neg hc, if_neg hc]
theorem fSlice_abs {t : TypeId} {x v : Value} {lo hi mx : Option Value} (hs : fSlice P h t x lo hi mx = some v) : aSlice P h.abs t x lo hi mx = some v := by
  unfold fSlice at hs
  split at hs
  · rename_i b off len cap
    split at hs
    · rename_i c n e ro hg
      rw [← hs]
      refine aSlice_dep fun b' off' len' he => ?_
      simp only [Value.slice.injEq, Option.some.injEq, Addr.mk.injEq] at he
      obtain ⟨⟨rfl, _⟩, _, rfl⟩ := he
      simp only [Nat.beq_refl, cond_true] at hg
      simp only [elemAt, FH.abs_get, hg, Option.map_some, FObj.abs]
      simp [AH.get, Tr.get_set]
    · simp at hs
    · rename_i hg
      rw [← hs]
      refine aSlice_dep fun b' off' len' he => ?_
      simp only [Value.slice.injEq, Option.some.injEq, Addr.mk.injEq] at he
      obtain ⟨⟨rfl, _⟩, _, rfl⟩ := he
      simp only [Nat.beq_refl, cond_true] at hg
      simp only [elemAt, FH.abs_get, hg, Option.map_none]
      simp [AH.get, Tr.get_nil]
  · rename_i hne
    rw [← hs]
    refine aSlice_dep fun b' off' len' he => ?_
    exact absurd he (hne _ _ _ _)
theorem fFirst_abs {size n : Nat} {v : Value} {l : List Value} (hs : fFirst h size n v = some l) : firstC h.abs size n v = some l := by
  unfold fFirst at hs
  split at hs
  · rename_i b off len cap
    simp only [firstC]
    split at hs
    · rename_i h0
      rw [h0]
      exact hs
    · rename_i k h0
      rw [h0]
      simp only
      split at hs
      rotate_left
      · simp at hs
      rename_i c m e ro hg
      obtain ⟨h1, h2⟩ := cond_some hs
      rw [Bool.and_eq_true] at h1
      have g1 := Nat.le_of_ble_eq_true h1.1
      have g2 := Nat.le_of_ble_eq_true h1.2
      rw [h0] at g2 h2
      simp only [FH.abs_get, hg, Option.map_some, FObj.abs, length_toL]
      rw [if_pos ⟨g1, g2⟩, ← h2, subL_toL g2]
  · exact hs
  · exact hs
  · simp at hs
theorem fOld_abs {size n cap : Nat} {base : Option Addr} {t : Tr Value} (hs : fOld h size n (.slice base n cap) = some t) : firstC h.abs size n (.slice base n cap) = some (toL t (n * size)) := by
  unfold fOld at hs
  split at hs
  · rename_i b off len cap' he
    simp only [Value.slice.injEq] at he
    obtain ⟨rfl, rfl, rfl⟩ := he
    simp only [firstC]
    split at hs
    · rename_i h0
      rw [h0]
      simp only [toL, Tr.subL]
    · rename_i k h0
      rw [h0]
      simp only
      split at hs
      rotate_left
      · simp at hs
      rename_i c m e ro hg
      obtain ⟨h1, h2⟩ := cond_some hs
      have g2 := Nat.le_of_ble_eq_true h1
      rw [h0] at g2 h2
      simp only [FH.abs_get, hg, Option.map_some, FObj.abs, length_toL]
      rw [if_pos ⟨Nat.le_refl _, g2⟩, ← h2]
      cases hb : Nat.beq off 0 with
      | true =>
        have := Nat.eq_of_beq_eq_true hb
        subst this
        simp only [cond_true, List.drop_zero]
        exact congrArg some (toL_take (t := c) (k := k + 1) (n := m) (by omega)).symm
      | false =>
        simp only [cond_false]
        have := toL_ofList (c.subL off (k + 1))
        rw [Tr.length_subL] at this
        rw [this, subL_toL g2]
  · rename_i len cap' he
    simp only [Value.slice.injEq] at he
    obtain ⟨rfl, rfl, rfl⟩ := he
    obtain ⟨h1, rfl⟩ := cond_some hs
    have := Nat.eq_of_beq_eq_true h1
    rw [this]
    rfl
  · simp at hs
theorem fAppend_abs {st : TypeId} {xi : Bool} {s x v : Value} (hs : fAppend P h st xi s x = some (v, h')) : aAppend P h.abs st xi s x = some (v, h'.abs) := by
  unfold fAppend at hs
  split at hs
  rotate_left
  · simp at hs
  rename_i elem base sLen sCap hu
  split at hs
  rotate_left
  · simp at hs
  rename_i i n hi hn
  split at hs
  rotate_left
  · simp at hs
  rename_i old new z ho hw hz
  have ho' := fOld_abs ho
  have hw' := fFirst_abs hw
  unfold aAppend
  rw [hu]
  simp only [hi, hn, ho', hw', hz, length_toL, and_true]
  split at hs
  rotate_left
  · simp at hs
  rename_i hc
  rw [if_pos hc]
  split at hs
  · rename_i hcap
    rw [if_pos hcap]
    split at hs
    rotate_left
    · simp at hs
    rename_i b off
    split at hs
    rotate_left
    · simp at hs
    rename_i c m e hg
    split at hs
    rotate_left
    · simp at hs
    rename_i hcc
    simp only [Option.some.injEq, Prod.mk.injEq] at hs
    obtain ⟨rfl, rfl⟩ := hs
    simp only [FH.abs_get, hg, Option.map_some, FObj.abs]
    rw [if_pos hcc, FH.abs_alloc, FH.abs_del]
    simp only [FObj.abs, toL_append]
    rfl
  · rename_i hcap
    rw [if_neg hcap]
    split at hs
    · rename_i hle
      rw [if_pos hle]
      split at hs
      · rename_i b off
        split at hs
        · simp only [Option.some.injEq, Prod.mk.injEq] at hs
          obtain ⟨rfl, rfl⟩ := hs
          rfl
        · split at hs
          rotate_left
          · simp at hs
          rename_i h1 hst
          simp only [Option.some.injEq, Prod.mk.injEq] at hs
          obtain ⟨rfl, rfl⟩ := hs
          simp only [fStoreCells_abs hst]
      · simp only [Option.some.injEq, Prod.mk.injEq] at hs
        obtain ⟨rfl, rfl⟩ := hs
        rfl
      · simp at hs
    · rename_i hle
      rw [if_neg hle]
      split at hs
      rotate_left
      · simp at hs
      rename_i hcc
      rw [if_pos hcc]
      simp only [Option.some.injEq, Prod.mk.injEq] at hs
      obtain ⟨rfl, rfl⟩ := hs
      rw [FH.abs_alloc]
      simp only [FObj.abs, toL_append]
      rfl
theorem fAppendZ_abs {st xt : TypeId} {s x v : Value} (hs : fAppendZ P h st xt s x = some (v, h')) : aAppendZ P h.abs st xt s x = some (v, h'.abs) := by
  unfold fAppendZ at hs
  unfold aAppendZ
  split at hs
  rotate_left
  · simp at hs
  rename_i hu hux
  split at hs
  rotate_left
  · simp at hs
  rename_i i z hi hz
  split at hs
  rotate_left
  · simp at hs
  rename_i hc
  simp only [Option.some.injEq, Prod.mk.injEq] at hs
  obtain ⟨rfl, rfl⟩ := hs
  rw [hu, hux]
  simp only [hi, hz, if_pos hc, FH.abs_alloc, FObj.abs, toL_zeros]
  rfl
theorem fCopy_abs {t : TypeId} {d s v : Value} (hs : fCopy P h t d s = some (v, h')) : aCopy P h.abs t d s = some (v, h'.abs) := by
  unfold fCopy at hs
  split at hs
  rotate_left
  · simp at hs
  rename_i elem base dLen cap hu
  split at hs
  rotate_left
  · simp at hs
  rename_i i sl hi hl
  split at hs
  rotate_left
  · simp at hs
  rename_i cells hc
  have hc' := fFirst_abs hc
  unfold aCopy
  rw [hu]
  simp only [hi, hl, hc']
  split at hs
  · simp only [Option.some.injEq, Prod.mk.injEq] at hs
    obtain ⟨rfl, rfl⟩ := hs
    rfl
  · simp only [Option.some.injEq, Prod.mk.injEq] at hs
    obtain ⟨rfl, rfl⟩ := hs
    rfl
  · split at hs
    · simp at hs
    · rename_i hd
      simp only [if_neg hd]
      split at hs
      rotate_left
      · simp at hs
      rename_i h1 hst
      simp only [Option.some.injEq, Prod.mk.injEq] at hs
      obtain ⟨rfl, rfl⟩ := hs
      simp only [fStoreCells_abs hst]
  · simp at hs
theorem fClear_abs {t : TypeId} {x v : Value} (hs : fClear P h t x = some (v, h')) : aClear P h.abs t x = some (v, h'.abs) := by
  unfold fClear at hs
  unfold aClear
  split at hs
  · rename_i hu
    split at hs
    rotate_left
    · simp at hs
    rename_i z hz
    split at hs
    rotate_left
    · simp at hs
    rename_i hc
    split at hs
    rotate_left
    · simp at hs
    rename_i h1 hst
    simp only [Option.some.injEq, Prod.mk.injEq] at hs
    obtain ⟨rfl, rfl⟩ := hs
    rw [hu]
    simp only [hz, if_pos hc, fStoreCells_abs hst]
  · rename_i base cap hu
    simp only [Option.some.injEq, Prod.mk.injEq] at hs
    obtain ⟨rfl, rfl⟩ := hs
    rw [hu]
    rcases base with _ | ⟨b, off, q⟩
    · rfl
    · cases q <;> rfl
  · rename_i n cap hu
    simp only [Option.some.injEq, Prod.mk.injEq] at hs
    obtain ⟨rfl, rfl⟩ := hs
    rw [hu]
    cases n <;> simp
  · simp at hs
theorem fMakeSlice_abs {t : TypeId} {l c v : Value} (hs : fMakeSlice P h t l c = some (v, h')) : aMakeSlice P h.abs t l c = some (v, h'.abs) := by
  unfold fMakeSlice at hs
  unfold aMakeSlice
  split at hs
  rotate_left
  · simp at hs
  rename_i hu
  split at hs
  rotate_left
  · simp at hs
  rename_i i z hi hz
  split at hs
  rotate_left
  · simp at hs
  rename_i hc
  simp only [Option.some.injEq, Prod.mk.injEq] at hs
  obtain ⟨rfl, rfl⟩ := hs
  rw [hu]
  simp only [hi, hz, if_pos hc, FH.abs_alloc, FObj.abs, toL_zeros]
  rfl
theorem aBuildSlice_at {h0 h1 : AH} {t : TypeId} {len : Nat} {parts : Array (Nat × Value)} {v : Value} (hs : aBuildSlice P h0 t len parts = some (v, h1)) :
    ∃ cs e, v = .slice (some ⟨h0.next, 0, none⟩) len len ∧ h1 = h0.alloc (.cells cs e false) ∧ ∀ h : AH, aBuildSlice P h t len parts = some (.slice (some ⟨h.next, 0, none⟩) len len, h.alloc (.cells cs e false)) := by
  unfold aBuildSlice at hs
  split at hs
  · simp at hs
  rename_i ht
  split at hs
  rotate_left
  · simp at hs
  rename_i elem hu
  split at hs
  rotate_left
  · simp at hs
  rename_i i z hi hz
  split at hs
  rotate_left
  · simp at hs
  rename_i hc
  split at hs
  rotate_left
  · simp at hs
  rename_i cs hf
  simp only [Option.some.injEq, Prod.mk.injEq] at hs
  obtain ⟨rfl, rfl⟩ := hs
  refine ⟨cs.toList, elem, rfl, rfl, fun h => ?_⟩
  unfold aBuildSlice
  rw [if_neg ht, hu]
  simp only [hi, hz, if_pos hc, hf]
theorem fBuildSlice_abs {t : TypeId} {len : Nat} {parts : Array (Nat × Value)} {v : Value} (hs : fBuildSlice P h t len parts = some (v, h')) : aBuildSlice P h.abs t len parts = some (v, h'.abs) := by
  unfold fBuildSlice at hs
  split at hs
  rotate_left
  · simp at hs
  rename_i b o q n c h1 hb
  obtain ⟨cs, e, h2, h3, h4⟩ := aBuildSlice_at hb
  simp only [Value.slice.injEq, Option.some.injEq, Addr.mk.injEq] at h2
  obtain ⟨⟨rfl, rfl, rfl⟩, rfl, rfl⟩ := h2
  rw [h3] at hs
  rw [AH.get_alloc] at hs
  simp only [if_pos] at hs
  simp only [Option.some.injEq, Prod.mk.injEq] at hs
  obtain ⟨rfl, rfl⟩ := hs
  rw [h4, FH.abs_alloc]
  simp only [FObj.abs, toL_ofList]
  rfl
theorem fConvert_abs {s d : TypeId} {x v : Value} (hs : fConvert P h s d x = some (v, h')) : aConvert P h.abs s d x = some (v, h'.abs) := by
  unfold fConvert at hs
  unfold aConvert
  split at hs
  · rename_i h1 h2
    simp only [Option.some.injEq, Prod.mk.injEq] at hs
    obtain ⟨rfl, rfl⟩ := hs
    rw [h1, h2]
  · rename_i h1 h2
    simp only [Option.some.injEq, Prod.mk.injEq] at hs
    obtain ⟨rfl, rfl⟩ := hs
    rw [h1, h2]
  · rename_i e s h1 h2
    rw [h1, h2]
    split at hs
    rotate_left
    · simp at hs
    rename_i h3
    split at hs
    rotate_left
    · simp at hs
    rename_i hc
    simp only [Option.some.injEq, Prod.mk.injEq] at hs
    obtain ⟨rfl, rfl⟩ := hs
    simp only [h3, if_pos hc, FH.abs_alloc, FObj.abs]
    have := toL_ofList (s.data.toList.map fun b => (.int .u8 b.toNat : Value))
    rw [List.length_map] at this
    have hl : s.data.toList.length = s.size := by rw [Array.length_toList]; rfl
    rw [hl] at this
    rw [this]
    rfl
  · rename_i e a n c h1 h2
    rw [h1, h2]
    split at hs
    rotate_left
    · simp at hs
    rename_i h3
    split at hs
    rotate_left
    · simp at hs
    rename_i cs hc
    split at hs
    rotate_left
    · simp at hs
    rename_i bs hb
    simp only [Option.some.injEq, Prod.mk.injEq] at hs
    obtain ⟨rfl, rfl⟩ := hs
    simp only [h3, fFirst_abs hc, hb]
  · rename_i e2 b off n c h1 h2
    rw [h1, h2]
    split at hs
    rotate_left
    · simp at hs
    rename_i cs m e h3 hg
    split at hs
    rotate_left
    · simp at hs
    rename_i hc
    simp only [Option.some.injEq, Prod.mk.injEq] at hs
    obtain ⟨rfl, rfl⟩ := hs
    simp only [h3, FH.abs_get, hg, Option.map_some, FObj.abs, if_pos hc, FH.abs_set]
  · simp at hs
theorem aLookup_dep {h1 h2 : AH} {t : TypeId} {m k : Value} {ok : Bool} (hd : ∀ r, m = .map (some r) → h1.get r = h2.get r) : aLookup P h1 t m k ok = aLookup P h2 t m k ok := by
  unfold aLookup
  split <;> first | rfl | skip
  split <;> first | rfl | skip
  split <;> first | rfl | skip
  rw [hd _ rfl]
theorem fLookup_abs {t : TypeId} {m k v : Value} {ok : Bool} (hs : fLookup P h t m k ok = some v) : aLookup P h.abs t m k ok = some v := by
  unfold fLookup at hs
  split at hs
  · rename_i r
    split at hs
    rotate_left
    · simp at hs
    rename_i es c hg
    rw [← hs]
    refine aLookup_dep fun r' he => ?_
    simp only [Value.map.injEq, Option.some.injEq] at he
    subst he
    rw [FH.abs_get, hg]
    simp [AH.get, Tr.get_set, FObj.abs]
  · rename_i hne
    rw [← hs]
    exact aLookup_dep fun r' he => absurd he (hne r')
theorem fMapUpdate_abs {t : TypeId} {m k v : Value} (hs : fMapUpdate P h t m k v = some h') : aMapUpdate P h.abs t m k v = some h'.abs := by
  unfold fMapUpdate at hs
  unfold aMapUpdate
  split at hs
  rotate_left
  · simp at hs
  rename_i hu
  rw [hu]
  split at hs
  rotate_left
  · simp at hs
  rename_i la es clock h1 h2 hg
  simp only [h1, h2, FH.abs_get, hg, Option.map_some, FObj.abs]
  split at hs
  · rename_i hf
    simp only [Option.some.injEq] at hs
    subst hs
    simp only [hf, FH.abs_set, FObj.abs]
  · rename_i hf
    simp only [Option.some.injEq] at hs
    subst hs
    simp only [hf, FH.abs_set, FObj.abs]
  · simp at hs
theorem fDelete_abs {t : TypeId} {m k v : Value} (hs : fDelete P h t m k = some (v, h')) : aDelete P h.abs t m k = some (v, h'.abs) := by
  unfold fDelete at hs
  unfold aDelete
  split at hs
  rotate_left
  · simp at hs
  rename_i hu
  rw [hu]
  split at hs
  rotate_left
  · simp at hs
  rename_i la es clock h1 h2 hg
  simp only [h1, h2, FH.abs_get, hg, Option.map_some, FObj.abs]
  split at hs
  · rename_i hf
    simp only [Option.some.injEq, Prod.mk.injEq] at hs
    obtain ⟨rfl, rfl⟩ := hs
    simp only [hf, FH.abs_set, FObj.abs]
  · rename_i hf
    simp only [Option.some.injEq, Prod.mk.injEq] at hs
    obtain ⟨rfl, rfl⟩ := hs
    simp only [hf, FH.abs_set, FObj.abs]
  · simp at hs
theorem aLen_dep {h1 h2 : AH} {t : TypeId} {x : Value} (hd : ∀ r, x = .map (some r) → h1.get r = h2.get r) : aLen P h1 t x = aLen P h2 t x := by
  unfold aLen
  split <;> first | rfl | skip
  rw [hd _ rfl]
theorem fLen_abs {t : TypeId} {x v : Value} (hs : fLen P h t x = some v) : aLen P h.abs t x = some v := by
  unfold fLen at hs
  split at hs
  · rename_i r
    split at hs
    rotate_left
    · simp at hs
    rename_i es c hg
    rw [← hs]
    refine aLen_dep fun r' he => ?_
    simp only [Value.map.injEq, Option.some.injEq] at he
    subst he
    rw [FH.abs_get, hg]
    simp [AH.get, Tr.get_set, FObj.abs]
  · rename_i hne
    rw [← hs]
    exact aLen_dep fun r' he => absurd he (hne r')
theorem map_pair {α : Type} {x : Option α} {y : α × FH} (hs : x.map (·, h) = some y) : ∃ v, x = some v ∧ y = (v, h) := by
  cases x with
  | none => simp at hs
  | some v => exact ⟨v, rfl, by simpa using hs.symm⟩
theorem fBuiltin_abs {b : Builtin} {ts : Array TypeId} {args : List Value} {v : Value} (hs : fBuiltin P h b ts args = some (v, h')) : aBuiltin P h.abs b ts args = some (v, h'.abs) := by
  unfold fBuiltin at hs
  unfold aBuiltin
  split at hs
  · rename_i t x ht
    obtain ⟨v0, h1, h2⟩ := map_pair hs
    cases h2
    simp only [ht, fLen_abs h1, Option.map_some]
  · rename_i t x ht
    obtain ⟨v0, h1, h2⟩ := map_pair hs
    cases h2
    simp only [ht, h1, Option.map_some]
  · rename_i st xt s x ht
    simp only [ht]
    split at hs
    · rename_i hux
      rw [hux]
      exact fAppendZ_abs hs
    · rename_i hne
      split
      · rename_i hux
        exact absurd hux (hne _)
      · exact fAppend_abs hs
  · rename_i ht
    simp only [ht]
    exact fCopy_abs hs
  · rename_i ht
    simp only [ht]
    exact fClear_abs hs
  · rename_i ht
    simp only [ht]
    exact fDelete_abs hs
  · obtain ⟨v0, h1, h2⟩ := map_pair hs
    cases h2
    simp only [h1, Option.map_some]
  · obtain ⟨v0, h1, h2⟩ := map_pair hs
    cases h2
    simp only [h1, Option.map_some]
  · simp at hs
theorem map_pairA {α : Type} {x : Option α} {h0 h1 h : AH} {v : α} (hs : x.map (·, h0) = some (v, h1)) : x.map (·, h) = some (v, h) := by
  cases x with
  | none => simp at hs
  | some v => simp at hs ⊢; exact hs.1
theorem calm_at {o : Oper} {e : Env} {h0 h1 h : AH} {v : Value} (hc : calm o.op = true) (hs : aOp P o e h0 = some (v, h1)) : aOp P o e h = some (v, h) := by
  unfold aOp at hs ⊢
  generalize o.op = q at hs hc ⊢
  cases q <;> simp only [calm, Bool.false_eq_true] at hc <;> simp only at hs ⊢ <;> first | exact map_pairA hs | skip
  all_goals first
    | (simp only [Option.some.injEq, Prod.mk.injEq] at hs ⊢; exact ⟨hs.1, trivial⟩)
    | (split at hs <;> simp_all; done)
    | (split at hs
       · rename_i hev
         try rw [hev]
         exact map_pairA hs
       · simp at hs)
    | skip
end
end Go.Am
