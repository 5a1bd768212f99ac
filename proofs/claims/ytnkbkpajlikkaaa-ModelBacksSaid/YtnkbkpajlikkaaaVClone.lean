/-
  WEAKEST CONDITIONS of some functions of this program, printed by a program.
-/
import Derived.Test.YtnkbkpajlikkaaaAmG
import Derived.Test.YtnkbkpajlikkaaaRows
set_option linter.unusedVariables false
set_option maxRecDepth 100000
namespace Go.Am
open Go.Proofs
theorem vc_sliceClone {K : Xs} (hk : K 28 = none) (pa0 : Option Addr) (na0 ca0 : Nat) (h : AH) (Q : Value → AH → Prop) (H :
    nilP pa0 (Q (.slice none 0 0) h) (∀ h0 : AH, h0 = h.alloc (.cells ([] : List Value) 59 false) →
    ∃ (p1 : Option Addr) (n2 c3 : Nat) (h4 : AH), aBuiltin Try.prog h0 .append #[47, 47] [(.slice (some ⟨h.next, 0, none⟩) 0 0), (.slice pa0 na0 ca0)] = some (.slice p1 n2 c3, h4) ∧
    (Q (.slice p1 n2 c3) h4))) :
    Wf Try.prog K 28 [(.slice pa0 na0 ca0)] h Q :=
  vcF_sound (hs := []) hk (Eq.mpr (by kernel_rfl) H)
end Go.Am
