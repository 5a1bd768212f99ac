/-
  WHATEVER IS TOLD OF ANY FAMILY: the arguments.
-/
import Derived.Test.YtibgmhipepaeaaaCTells
set_option linter.unusedVariables false
set_option linter.unusedSimpArgs false
set_option maxRecDepth 100000
namespace Go.Am
open Go.Proofs
theorem rd_u64Y {h : AH} {g : Nat} {v : Value} (r : RdV Try.prog h (g + 1) 22 v) : ∃ n, v = .int .u64 n ∧ (Lit.int .u64 n).wf = true := by
  unfold RdV at r
  rw [Try.underlying22] at r
  unfold Rd at r
  rw [Try.underlying22] at r
  obtain ⟨n, e, hw⟩ := r
  exact ⟨n, by simpa using e, hw⟩
theorem rd_strY {h : AH} {g : Nat} {v : Value} (r : RdV Try.prog h (g + 1) 9 v) : ∃ s, v = .string s ∧ s.size ≤ reachBytes := by
  unfold RdV at r
  rw [Try.underlying9] at r
  unfold Rd at r
  rw [Try.underlying9] at r
  obtain ⟨s, e, -, hw⟩ := r
  exact ⟨s, by simpa using e, hw⟩
theorem tells_args {h : AH} {vs : List Value} (r : RdA Try.prog h 8 [34, 22, 9] vs) : ∃ p n c rs id f, vs = [.slice p n c, .int .u64 id, .string f] ∧ Sets h p n rs ∧ f.size ≤ 9223372036854775806 := by
  obtain ⟨a, b, c, rfl, r1, r2, r3⟩ := rda3 r
  obtain ⟨p, n, c, rs, rfl, T⟩ := rd_setsX (g := 3) (rdv_setsX r1)
  obtain ⟨id, rfl, -⟩ := rd_u64Y r2
  obtain ⟨f, rfl, hf⟩ := rd_strY r3
  exact ⟨p, n, c, rs, id, f, rfl, T, by simp only [reachBytes] at hf; omega⟩
end Go.Am
