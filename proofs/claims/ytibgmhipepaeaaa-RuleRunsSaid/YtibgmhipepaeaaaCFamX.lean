/-
  A FAMILY'S RECORDS as arguments.
-/
import Derived.Test.YtibgmhipepaeaaaCFam
set_option linter.unusedVariables false
set_option linter.unusedSimpArgs false
set_option maxRecDepth 100000
namespace Go.Am
open Go.Proofs
theorem list_ofX {α : Type} (Q : Nat → α → Prop) : ∀ (n : Nat), (∀ i, i < n → ∃ a, Q i a) → ∃ l : List α, l.length = n ∧ ∀ (i : Nat) (hi : i < l.length), Q i l[i]
 | 0, _ => ⟨[], rfl, fun i hi => absurd hi (Nat.not_lt_zero _)⟩
 | n + 1, h => by
   obtain ⟨l, hl, hq⟩ := list_ofX Q n fun i hi => h i (by omega)
   obtain ⟨a, ha⟩ := h n (by omega)
   refine ⟨l ++ [a], by simp [hl], fun i hi => ?_⟩
   by_cases h2 : i < l.length
   ·rw [List.getElem_append_left h2]
    exact hq i h2
   ·obtain rfl : i = n := by simp at hi; omega
    rw [List.getElem_append_right (by omega)]
    simpa using ha
section
variable {h : AH}
theorem rd_ptrX {g : Nat} {cs : List Value} (r : Rd Try.prog h (g + 2) 25 cs) : ∃ q : PtI, cs = [.int .i64 q.1, .int .u64 q.2.1, .int .u32 q.2.2] ∧ PtrWfI q := by
 unfold Rd at r
 rw [Try.underlying25] at r
 have hc1 : Try.prog.cellsOf 3 = 1 := by simp
 have hc2 : Try.prog.cellsOf 22 = 1 := by simp
 have hc3 : Try.prog.cellsOf 23 = 1 := by simp
 simp only [List.map_cons, List.map_nil, RdL, hc1, hc2, hc3] at r
 obtain ⟨k1, r1, k2, r2, k3, r3, r4⟩ := r
 unfold Rd at r1 r2 r3
 rw [Try.underlying3] at r1
 rw [Try.underlying22] at r2
 rw [Try.underlying23] at r3
 obtain ⟨x, e1, w1⟩ := r1
 obtain ⟨y, e2, w2⟩ := r2
 obtain ⟨z, e3, w3⟩ := r3
 match cs, e1, e2, e3, r4, k3 with
 | [a, b, c], e1, e2, e3, r4, k3 =>
   simp at e1 e2 e3
   subst e1 e2 e3
   exact ⟨(x, y, z), rfl, w1, w2, w3⟩
 | a :: b :: c :: d :: l, e1, e2, e3, r4, k3 => simp at r4
theorem flat3 {l : List PtI} {al : List Value} (hl : al.length = l.length * 3) (h : ∀ (i : Nat) (hi : i < l.length), (al.drop (i * 3)).take 3 = [.int .i64 l[i].1, .int .u64 l[i].2.1, .int .u32 l[i].2.2]) : al = ptI l := by
 apply List.ext_getElem?
 intro j
 by_cases hj : j < al.length
 ·have hi : j / 3 < l.length := by omega
  have e1 := congrArg (fun x : List Value => x[j % 3]?) (h (j / 3) hi)
  have e2 := congrArg (fun x : List Value => x[j % 3]?) (ptI_get l (j / 3) hi)
  simp only [List.getElem?_take, List.getElem?_drop] at e1 e2
  have hm : j % 3 < 3 := Nat.mod_lt _ (by decide)
  have hd : j / 3 * 3 + j % 3 = j := by omega
  rw [if_pos hm, hd] at e1 e2
  rw [e1, e2]
 ·rw [List.getElem?_eq_none (by omega), List.getElem?_eq_none (by rw [ptI_len]; omega)]
theorem rd_ptrsX {g : Nat} {v : Value} (r : Rd Try.prog h (g + 3) 26 [v]) : ∃ p n c ds, v = .slice p n c ∧ (p = none ∨ ∃ b off, p = some ⟨b, off, none⟩) ∧ n * 24 ≤ reachBytes ∧ n = ds.length ∧ Shows h p n 3 (ptI ds) ∧ ∀ q ∈ ds, PtrWfI q := by
 unfold Rd at r
 rw [Try.underlying26] at r
 obtain ⟨p, n, c, al, e, hp, hn, hb, hs, hr⟩ := r
 have hc2 : Try.prog.cellsOf 25 = 3 := by simp
 have hb2 : Try.prog.bytesOf 25 = 24 := by kernel_rfl
 rw [hb2] at hb
 obtain ⟨hl, hi⟩ := hr.rep
 rw [hc2] at hs hi hl
 obtain ⟨ds, hds, hq⟩ := list_ofX (fun i (q : PtI) => (al.drop (i * 3)).take 3 = [.int .i64 q.1, .int .u64 q.2.1, .int .u32 q.2.2] ∧ PtrWfI q) n fun i hin => rd_ptrX (hi i hin)
 have hal := flat3 (l := ds) (by rw [hl, hds]) fun i hi => (hq i hi).1
 subst hal
 refine ⟨p, n, c, ds, by simpa using e, hp, hb, hds.symm, hs, fun q hq' => ?_⟩
 obtain ⟨i, hi', rfl⟩ := List.mem_iff_getElem.1 hq'
 exact (hq i hi').2
end
end Go.Am
