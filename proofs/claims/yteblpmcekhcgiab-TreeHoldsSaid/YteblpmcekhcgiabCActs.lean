/-
  WHAT ARGUMENTS ARE: what is done with a tree, one after the other.
-/
import Derived.Test.YteblpmcekhcgiabCText
set_option linter.unusedVariables false
set_option linter.unusedSimpArgs false
set_option maxRecDepth 100000
namespace Go.Am
open Go.Proofs
abbrev Act3 := Int × Int × List Nat
/-- A row of acts that is read. -/
def Acts (h : AH) (p : Option Addr) (n : Nat) (acts : List Act3) : Prop := n = acts.length ∧ ∃ cells, Shows h p n 3 cells ∧ ∀ (i : Nat) (hi : i < acts.length), ∃ p' n' c', (cells.drop (i * 3)).take 3 = [.int .i64 acts[i].1, .int .i64 acts[i].2.1, .slice p' n' c'] ∧ Text h p' n' acts[i].2.2
section
variable {h : AH}
theorem Acts.at2 {g : AH} {p : Option Addr} {n : Nat} {acts : List Act3} (t : Acts h p n acts) (o : Old h g) {i : Nat} (hi : i < n) : ∃ b off, p = some ⟨b, off, none⟩ ∧ ∃ (hi' : i < acts.length), ∃ p' n' c', ldN g b (off + i * 3) 3 = some [.int .i64 acts[i].1, .int .i64 acts[i].2.1, .slice p' n' c'] ∧ Text h p' n' acts[i].2.2 := by
  obtain ⟨t2, cells, t3, t4⟩ := t
  obtain ⟨b, off, hp, hld, -⟩ := (t3.old o).getN hi
  obtain ⟨p', n', c', q1, q2⟩ := t4 i (by omega)
  exact ⟨b, off, hp, by omega, p', n', c', by rw [hld, q1], q2⟩
theorem rd_act {g : Nat} {cs : List Value} (r : Rd Try.prog h (g + 3) 63 cs) : ∃ a : Act3, ∃ p' n' c', cs = [.int .i64 a.1, .int .i64 a.2.1, .slice p' n' c'] ∧ Text h p' n' a.2.2 := by
  unfold Rd at r
  rw [Try.underlying63] at r
  have hc1 : Try.prog.cellsOf 3 = 1 := by simp
  have hc2 : Try.prog.cellsOf 61 = 1 := by simp
  simp only [List.map_cons, List.map_nil, RdL, hc1, hc2] at r
  obtain ⟨k1, r1, k2, r2, k3, r3, r4⟩ := r
  unfold Rd at r1 r2
  rw [Try.underlying3] at r1 r2
  obtain ⟨x, e1, -⟩ := r1
  obtain ⟨y, e2, -⟩ := r2
  match cs, e1, e2, r3, r4, k3 with
  | [a, b, c], e1, e2, r3, r4, k3 =>
    obtain ⟨p', n', c', data, e3, tx⟩ := rd_text r3
    simp only [List.take_succ_cons, List.take_zero, List.cons.injEq, and_true] at e1
    simp only [List.drop_succ_cons, List.drop_zero, List.take_succ_cons, List.take_zero, List.cons.injEq, and_true] at e2
    subst e1 e2
    exact ⟨(x, y, data), p', n', c', by rw [e3], tx⟩
theorem rd_acts {g : Nat} {v : Value} (r : Rd Try.prog h (g + 4) 53 [v]) : ∃ p n c acts, v = .slice p n c ∧ Acts h p n acts := by
  unfold Rd at r
  rw [Try.underlying53] at r
  obtain ⟨p, n, c, al, e, hp, hn, hb, hs, hr⟩ := r
  have hc2 : Try.prog.cellsOf 63 = 3 := by simp
  obtain ⟨hl, hi⟩ := hr.rep
  rw [hc2] at hs hi hl
  obtain ⟨acts, hal, has⟩ := list_of (fun i (a : Act3) => ∃ p' n' c', (al.drop (i * 3)).take 3 = [.int .i64 a.1, .int .i64 a.2.1, .slice p' n' c'] ∧ Text h p' n' a.2.2) n fun i hin => rd_act (hi i hin)
  exact ⟨p, n, c, acts, by simpa using e, hal.symm, al, hs, has⟩
theorem rdv_acts {g : Nat} {a : Value} (r : RdV Try.prog h g 53 a) : Rd Try.prog h g 53 [a] := by
  unfold RdV at r
  rw [Try.underlying53] at r
  exact r
theorem rd_u64 {g : Nat} {v : Value} (r : RdV Try.prog h (g + 1) 25 v) : ∃ n, v = .int .u64 n ∧ (Lit.int .u64 n).wf = true := by
  unfold RdV at r
  rw [Try.underlying25] at r
  unfold Rd at r
  rw [Try.underlying25] at r
  obtain ⟨n, e, hw⟩ := r
  exact ⟨n, by simpa using e, hw⟩
end
end Go.Am
