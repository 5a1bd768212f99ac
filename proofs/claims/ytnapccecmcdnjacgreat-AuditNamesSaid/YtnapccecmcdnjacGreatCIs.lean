/-
  A SECTOR'S STATE in this program: what is told of its test is what the program does.
-/
import Derived.Test.YtnapccecmcdnjacGreatAmF
import Derived.Test.YtnapccecmcdnjacGreatPFacts
set_option linter.unusedVariables false
set_option linter.unusedSimpArgs false
set_option maxRecDepth 100000
namespace Go.Am
open Go.Proofs
theorem cIs {K : Xs} (hk : K 153 = none) : Tells Tryz.prog K 153 xIs := by
  refine tells_of hk ?_
  intro args h v h' hwf hg
  unfold xIs at hg
  split at hg
  rotate_left
  · simp at hg
  rename_i b off i s
  split at hg
  rotate_left
  · simp at hg
  rename_i cs el ro hb
  split at hg
  rotate_left
  · simp at hg
  rename_i x hx
  obtain ⟨hc, hg2⟩ := cond_some' hg
  clear hg
  rw [Nat.blt_eq] at hc
  simp only [Option.some.injEq, Prod.mk.injEq] at hg2
  obtain ⟨rfl, rfl⟩ := hg2
  rw [Wf_enter hk Tryz.func153 (c := _) rfl]
  have h1 : (i : Int) < 1024 := by omega
  have hcb : cellAt cs (off + i) = some (.int .u8 x) := hx
  simp [Tryz.f153, aOp, wantedA, h1, hb, hcb, aResults, aResult]
  cases hq : Nat.beq x s with
  | true =>
    have := Nat.eq_of_beq_eq_true hq
    simp [this]
  | false =>
    have hne : ¬ x = s := fun q => by rw [q, Nat.beq_refl] at hq; cases hq
    simp [hne]
    omega
end Go.Am
