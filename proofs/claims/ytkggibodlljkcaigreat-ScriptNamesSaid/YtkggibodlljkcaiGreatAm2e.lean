/-
  Each operation of the abstract machine is met by the model's: append, copy, make, slices of literals, strings as bytes.
-/
import Derived.Test.YtkggibodlljkcaiGreatAm2d
set_option linter.unusedVariables false
set_option linter.unusedSimpArgs false
namespace Go.Am
variable {P : Program} {φ φ' : Fi} {h h' : AH} {w w' : World}

theorem getElem?_flat_replicate (l : List Value) : ∀ (n i : Nat), i < n * l.length → ((List.replicate n l).flatten)[i]? = l[i % l.length]?
  | 0, i, hi => by simp at hi
  | n + 1, i, hi => by
    rw [List.replicate_succ, List.flatten_cons]
    by_cases hlt : i < l.length
    · rw [List.getElem?_append_left hlt, Nat.mod_eq_of_lt hlt]
    · rw [List.getElem?_append_right (by omega)]
      have hpos : 0 < l.length := by
        rcases Nat.eq_zero_or_pos l.length with k | k
        · rw [k] at hi; simp at hi
        · exact k
      rw [getElem?_flat_replicate l n (i - l.length) (by rw [Nat.add_mul] at hi; omega)]
      congr 1
      conv => rhs; rw [show i = (i - l.length) + l.length by omega, Nat.add_mod_right]
theorem zeros_eq {z : Array Value} {n s : Nat} (hz : z.size = s) : ((Array.range (n * s)).map (z[· % z.size]!)).toList = (List.replicate n z.toList).flatten := by
  apply List.ext_getElem?
  intro i
  have hlen : ((List.replicate n z.toList).flatten).length = n * s := by simp [hz]
  by_cases hi : i < n * s
  · rw [getElem?_flat_replicate z.toList n i (by simpa [hz] using hi)]
    have hpos : 0 < z.size := by
      rcases Nat.eq_zero_or_pos s with k | k
      · rw [k] at hi; simp at hi
      · omega
    have hm : i % z.size < z.size := Nat.mod_lt _ hpos
    simp [hi, hm]
  · rw [List.getElem?_eq_none (by simp; omega), List.getElem?_eq_none (by simp [hz]; omega)]
theorem LR.replicate {zs : List Value} (hz : LR φ zs zs) : ∀ n, LR φ ((List.replicate n zs).flatten) ((List.replicate n zs).flatten)
  | 0 => trivial
  | n + 1 => by
    rw [List.replicate_succ, List.flatten_cons]
    exact hz.append (LR.replicate hz n)

theorem makeSlice_sound (G : Good P) (r : R P φ h w) {t : TypeId} {l l' c c' v : Value} {h' : AH} (hs : aMakeSlice P h t l c = some (v, h')) (hl : VR φ l l') (hc : VR φ c c') (hf : h.next < h'.next → φ h.next = none) :
    Ends P φ h w (Instr.makeSlice t l' c') v h' := by
  unfold aMakeSlice at hs
  split at hs
  · rename_i elem kl ln kc cn hu
    split at hs
    · rename_i i zs hi hz
      split at hs
      · rename_i hcond
        obtain ⟨h0, h1, h2, h3, h4⟩ := hcond
        simp only [Option.some.injEq, Prod.mk.injEq] at hs
        obtain ⟨rfl, rfl⟩ := hs
        have hf0 := hf (by simp)
        cases hl
        cases hc
        obtain ⟨i', z, hi', hz', rfl, hne⟩ := zeroCells_info hz
        rw [hi] at hi'
        cases hi'
        have hwl : IntKind.i64.wrap ln = ln := by
          simp only [IntKind.wrap, IntKind.bits, IntKind.signed]
          simp
          omega
        have hwc : IntKind.i64.wrap cn = cn := by
          simp only [IntKind.wrap, IntKind.bits, IntKind.signed]
          simp
          omega
        have hzl : z.cells.size = i.size := by simpa using h4
        have hcells : (if cn.toNat * i.size = 0 then (#[] : Array Value) else z.cells) = if cn.toNat * i.size = 0 then #[] else z.cells := rfl
        have key : ∀ zc : Array Value, zc = (if cn.toNat * i.size = 0 then #[] else z.cells) → ((Array.range (cn.toNat * i.size)).map (zc[· % zc.size]!)).toList = (List.replicate cn.toNat z.cells.toList).flatten := by
          intro zc hzc
          by_cases h00 : cn.toNat * i.size = 0
          · rw [h00]
            have : ((List.replicate cn.toNat z.cells.toList).flatten).length = 0 := by simp [hzl, h00]
            rw [List.eq_nil_of_length_eq_zero this]
            simp
          · simp only [h00, if_false] at hzc
            subst hzc
            exact zeros_eq hzl
        obtain ⟨φ', g1, g2⟩ := newRow_sound (P := P) (e := elem) (C := (Array.range (cn.toNat * i.size)).map (fun k => (if cn.toNat * i.size = 0 then (#[] : Array Value) else z.cells)[k % (if cn.toNat * i.size = 0 then (#[] : Array Value) else z.cells).size]!)) r hf0
          ((zeroCells_LR (φ := φ) G hz).replicate cn.toNat) ⟨[], by rw [key _ rfl]; simp⟩ 0
        have ht1 : ¬ (cn < 0) := by omega
        have ht2 : ¬ ((i.bytes : Int) * cn > 2 ^ 48) := by omega
        have ht3 : ¬ (ln < 0) := by omega
        have ht4 : ¬ (ln > cn) := by omega
        refine ⟨φ', .slice (some ⟨w.heap.size, 0, none⟩) ln.toNat cn.toNat, _, ?_, by simpa using VR.slice (n := ln.toNat) (off := 0) g1 (show cn.toNat < openCap by simp only [openCap]; omega), g2⟩
        by_cases h00 : cn.toNat * i.size = 0
        · simp [Instr.makeSlice, underlying_run hu, asInt, asIntOf, typeInfo, hi, hwl, hwc, ht1, ht2, ht3, ht4, sizeOf_run (show (P.info? elem).isSome = true by simp [hi]), Program.cellsOf, h00, newRow]
          exact fun hb => absurd hb (by omega)
        · simp [Instr.makeSlice, underlying_run hu, asInt, asIntOf, typeInfo, hi, hwl, hwc, ht1, ht2, ht3, ht4, sizeOf_run (show (P.info? elem).isSome = true by simp [hi]), Program.cellsOf, h00, newRow, zero_run hi hz']
          exact fun hb => absurd hb (by omega)
      · simp at hs
    · simp at hs
  · simp at hs

theorem buildSlice_sound (G : Good P) (r : R P φ h w) {t : TypeId} {n : Nat} {ps ps' : Array (Nat × Value)} {v : Value} {h' : AH} (hs : aBuildSlice P h t n ps = some (v, h')) (hp : PR φ ps.toList ps'.toList) (hf : h.next < h'.next → φ h.next = none) :
    Ends P φ h w (Instr.buildSlice t n ps') v h' := by
  unfold aBuildSlice at hs
  split at hs
  · simp at hs
  · rename_i hn
    have hn' : (ps.toList.any fun p => isTup p.2) = false := by simpa using hn
    split at hs
    · rename_i elem hu
      split at hs
      · rename_i i zs hi hz
        split at hs
        · rename_i hcond
          obtain ⟨hle, hzl, hoc⟩ := hcond
          obtain ⟨i', z, hi', hz', rfl, hne⟩ := zeroCells_info hz
          rw [hi] at hi'
          cases hi'
          have hzl' : z.cells.size = i.size := by simpa using hzl
          split at hs
          · rename_i out hfill
            simp only [Option.some.injEq, Prod.mk.injEq] at hs
            obtain ⟨rfl, rfl⟩ := hs
            have hf0 := hf (by simp)
            have key : ((Array.range (n * i.size)).map (fun k => (if n * i.size = 0 then (#[] : Array Value) else z.cells)[k % (if n * i.size = 0 then (#[] : Array Value) else z.cells).size]!)).toList = (List.replicate n z.cells.toList).flatten := by
              by_cases h00 : n * i.size = 0
              · rw [h00]
                have : ((List.replicate n z.cells.toList).flatten).length = 0 := by simp [hzl', h00]
                rw [List.eq_nil_of_length_eq_zero this]
                simp
              · simp only [h00, if_false]
                exact zeros_eq hzl'
            obtain ⟨out', f1, f2⟩ := fill_sound (φ := φ) (fun j => some (j * i.size, i.size)) (fun j => some (j * i.size, i.size)) (fun _ => rfl)
              (cs' := (Array.range (n * i.size)).map (fun k => (if n * i.size = 0 then (#[] : Array Value) else z.cells)[k % (if n * i.size = 0 then (#[] : Array Value) else z.cells).size]!)) hp hn'
              (by rw [key]; simpa using (zeroCells_LR (φ := φ) G hz).replicate n) hfill
            obtain ⟨φ', g1, g2⟩ := newRow_sound (P := P) (e := elem) (C := out') r hf0 f2 ⟨[], by simp⟩ 0
            refine ⟨φ', .slice (some ⟨w.heap.size, 0, none⟩) n n, _, ?_, by simpa using VR.slice (n := n) (off := 0) g1 hoc, g2⟩
            have hle' : ¬ (n * i.size > 2 ^ 24) := by omega
            by_cases h00 : n * i.size = 0
            · simp only [h00, if_true] at f1
              simp [Instr.buildSlice, underlying_run hu, sizeOf_run (show (P.info? elem).isSome = true by simp [hi]), Program.cellsOf, hi, h00, newRow] at f1 ⊢
              simp [f1, newRow]
            · simp only [h00, if_false] at f1
              simp [Instr.buildSlice, underlying_run hu, sizeOf_run (show (P.info? elem).isSome = true by simp [hi]), Program.cellsOf, hi, h00, hle', newRow, zero_run hi hz'] at f1 ⊢
              simp [f1, newRow]
          · simp at hs
        · simp at hs
      · simp at hs
    · simp at hs
end Go.Am
