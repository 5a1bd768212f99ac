/-
  WEAKEST CONDITIONS of some functions of this program, printed by a program.
-/
import Derived.Test.YtfomjjgojpmgcabAmG
import Derived.Test.YtfomjjgojpmgcabRows
set_option linter.unusedVariables false
set_option maxRecDepth 100000
namespace Go.Am
open Go.Proofs
theorem vc_aquiferlaw12_BlobNeeds {K : Xs} (hk : K 3 = none) (ia0 : Int) (h : AH) (Q : Value → AH → Prop) (H :
    Wf Try.prog K 7 [] h fun r0 h1 =>
    (((r0 = (.bool true) ∧
    (Wf Try.prog K 8 [(.int .i64 ia0)] h1 fun r2 h3 =>
    (∃ i4 : Int, r2 = (.int .i64 i4) ∧
    (Wf Try.prog K 9 [(.int .i64 ia0)] h3 fun r5 h6 =>
    (∃ i7 : Int, r5 = (.int .i64 i7) ∧
    (((i4 : Int) = i7 → Q (.bool true) h6) ∧
    (¬ (i4 : Int) = i7 → Q (.bool false) h6))))))) ∨ (r0 = (.bool false) ∧
    (Q (.bool false) h1))))) :
    Wf Try.prog K 3 [(.int .i64 ia0)] h Q :=
  vcF_sound (hs := []) hk (Eq.mpr (by kernel_rfl) H)
theorem vc_aquiferlaw12_BlobGrows {K : Xs} (hk : K 5 = none) (ia0 : Int) (h : AH) (Q : Value → AH → Prop) (H :
    Wf Try.prog K 7 [] h fun r0 h1 =>
    (((r0 = (.bool true) ∧
    (((ia0 : Int) < 1 → Wf Try.prog K 8 [(.int .i64 ia0)] h1 fun r2 h3 =>
    (∃ i4 : Int, r2 = (.int .i64 i4) ∧
    (((i4 : Int) = 0 → Q (.bool true) h3) ∧
    (¬ (i4 : Int) = 0 → ((ia0 : Int) = 65535 → Q (.bool true) h3) ∧
    (¬ (ia0 : Int) = 65535 → Q (.bool false) h3))))) ∧
    (¬ (ia0 : Int) < 1 → ((65535 : Int) ≤ ia0 → Wf Try.prog K 8 [(.int .i64 ia0)] h1 fun r5 h6 =>
    (∃ i7 : Int, r5 = (.int .i64 i7) ∧
    (((i7 : Int) = 0 → Q (.bool true) h6) ∧
    (¬ (i7 : Int) = 0 → ((ia0 : Int) = 65535 → Q (.bool true) h6) ∧
    (¬ (ia0 : Int) = 65535 → Q (.bool false) h6))))) ∧
    (¬ (65535 : Int) ≤ ia0 → Wf Try.prog K 8 [(.int .i64 ia0)] h1 fun r8 h9 =>
    (∃ i10 : Int, r8 = (.int .i64 i10) ∧
    (∀ i11 : Int, i11 = IntKind.wrap .i64 (ia0 + 1) → Wf Try.prog K 8 [(.int .i64 i11)] h9 fun r12 h13 =>
    (∃ i14 : Int, r12 = (.int .i64 i14) ∧
    (∀ i15 : Int, i15 = IntKind.wrap .i64 (ia0 + 127) → (128 ≠ (0 : Int)) ∧ (∀ i16 : Int, i16 = IntKind.wrap .i64 (Int.tdiv i15 128) → ((i10 : Int) ≤ i14 → ∀ i17 : Int, i17 = IntKind.wrap .i64 (i10 + 4) → ((i14 : Int) ≤ i17 → ((i16 : Int) ≤ i10 → (7 ≠ (0 : Int)) ∧ (∀ i18 : Int, i18 = IntKind.wrap .i64 (Int.tdiv i16 7) → ∀ i19 : Int, i19 = IntKind.wrap .i64 (i16 + i18) → ∀ i20 : Int, i20 = IntKind.wrap .i64 (i19 + 3) → ((i10 : Int) ≤ i20 → Q (.bool true) h13) ∧
    (¬ (i10 : Int) ≤ i20 → Q (.bool false) h13))) ∧
    (¬ (i16 : Int) ≤ i10 → Q (.bool false) h13)) ∧
    (¬ (i14 : Int) ≤ i17 → Q (.bool false) h13)) ∧
    (¬ (i10 : Int) ≤ i14 → Q (.bool false) h13)))))))))) ∨ (r0 = (.bool false) ∧
    (Q (.bool false) h1))))) :
    Wf Try.prog K 5 [(.int .i64 ia0)] h Q :=
  vcF_sound (hs := []) hk (Eq.mpr (by kernel_rfl) H)
theorem vc_blob_Need {K : Xs} (hk : K 8 = none) (ia0 : Int) (h : AH) (Q : Value → AH → Prop) (H :
    Wf Try.prog K 19 [(.int .i64 ia0)] h fun r0 h1 =>
    (∃ (p2 : Option Addr) (n3 c4 : Nat), r0 = (.slice p2 n3 c4) ∧
    (∃ I5 : Int → Int → Nat → AH → Prop, (∃ n, I5 0 0 n h1) ∧
    ∀ (k6 : Nat) (h7 : AH) (i9 : Int) (i10 : Int), I5 i9 i10 k6 h7 →
    ((i10 : Int) < ((n3 : Nat) : Int) → derefP p2 fun b11 o12 => (((0 : Int) ≤ i10) ∧ ((i10 : Int) < ((n3 : Nat) : Int)) ∧
    (∃ i13 : Int, ld1 h7 b11 (o12 + Int.toNat i10 * 1) = some (.int .i64 i13) ∧
    (∀ i14 : Int, i14 = IntKind.wrap .i64 (i9 + i13) → ∀ i15 : Int, i15 = IntKind.wrap .i64 (i10 + 1) → ∃ j8, j8 < k6 ∧ I5 i14 i15 j8 h7)))) ∧
    (¬ (i10 : Int) < ((n3 : Nat) : Int) → Q (.int .i64 i9) h7)))) :
    Wf Try.prog K 8 [(.int .i64 ia0)] h Q :=
  vcF_sound (hs := [(3, [(3, .int .i64 0), (9, .int .i64 0)])]) hk (Eq.mpr (by kernel_rfl) H)
theorem vc_blob_levels {K : Xs} (hk : K 19 = none) (ia0 : Int) (h : AH) (Q : Value → AH → Prop) (H :
    ((ia0 : Int) < 1 → Q (.slice none 0 0) h) ∧
    (¬ (ia0 : Int) < 1 → ((65535 : Int) < ia0 → Q (.slice none 0 0) h) ∧
    (¬ (65535 : Int) < ia0 → Wf Try.prog K 33 [(.int .i64 ia0), (.int .i64 128)] h fun r0 h1 =>
    (∃ i2 : Int, r0 = (.int .i64 i2) ∧
    (∀ h3 : AH, h3 = h1.alloc (.cells ([(.int .i64 i2)] : List Value) 3 false) →
    ∃ I4 : Int → Option Addr → Nat → Nat → Nat → AH → Prop, (∃ n, I4 i2 (some ⟨h1.next, 0, none⟩) 1 1 n h3) ∧
    ∀ (k5 : Nat) (h6 : AH) (i8 : Int) (p9 : Option Addr) (n10 : Nat) (c11 : Nat), I4 i8 p9 n10 c11 k5 h6 →
    ((1 : Int) < i8 → Wf Try.prog K 33 [(.int .i64 i8), (.int .i64 8)] h6 fun r12 h13 =>
    (∃ i14 : Int, r12 = (.int .i64 i14) ∧
    (∀ h15 : AH, h15 = h13.alloc (.cells ([(.int .i64 i14)] : List Value) 3 false) →
    ∃ (p16 : Option Addr) (n17 c18 : Nat) (h19 : AH), aBuiltin Try.prog h15 .append #[28, 28] [(.slice p9 n10 c11), (.slice (some ⟨h13.next, 0, none⟩) 1 1)] = some (.slice p16 n17 c18, h19) ∧
    (∃ j7, j7 < k5 ∧ I4 i14 p16 n17 c18 j7 h19)))) ∧
    (¬ (1 : Int) < i8 → Q (.slice p9 n10 c11) h6)))))) :
    Wf Try.prog K 19 [(.int .i64 ia0)] h Q :=
  vcF_sound (hs := [(5, [(3, .int .i64 0), (4, .slice none 0 0)])]) hk (Eq.mpr (by kernel_rfl) H)
theorem vc_blob_up_int_ {K : Xs} (hk : K 33 = none) (ia0 : Int) (ia1 : Int) (h : AH) (Q : Value → AH → Prop) (H :
    ∀ i0 : Int, i0 = IntKind.wrap .i64 (ia0 + ia1) → ∀ i1 : Int, i1 = IntKind.wrap .i64 (i0 - 1) → (ia1 ≠ (0 : Int)) ∧ (∀ i2 : Int, i2 = IntKind.wrap .i64 (Int.tdiv i1 ia1) → Q (.int .i64 i2) h)) :
    Wf Try.prog K 33 [(.int .i64 ia0), (.int .i64 ia1)] h Q :=
  vcF_sound (hs := []) hk (Eq.mpr (by kernel_rfl) H)
theorem vc_aquiferref12_Need {K : Xs} (hk : K 9 = none) (ia0 : Int) (h : AH) (Q : Value → AH → Prop) (H :
    Wf Try.prog K 20 [(.int .i64 ia0)] h fun r0 h1 =>
    (∃ (p2 : Option Addr) (n3 c4 : Nat), r0 = (.slice p2 n3 c4) ∧
    (∃ I5 : Int → Int → Nat → AH → Prop, (∃ n, I5 0 0 n h1) ∧
    ∀ (k6 : Nat) (h7 : AH) (i9 : Int) (i10 : Int), I5 i9 i10 k6 h7 →
    ((i10 : Int) < ((n3 : Nat) : Int) → derefP p2 fun b11 o12 => (((0 : Int) ≤ i10) ∧ ((i10 : Int) < ((n3 : Nat) : Int)) ∧
    (∃ i13 : Int, ld1 h7 b11 (o12 + Int.toNat i10 * 1) = some (.int .i64 i13) ∧
    (∀ i14 : Int, i14 = IntKind.wrap .i64 (i9 + i13) → ∀ i15 : Int, i15 = IntKind.wrap .i64 (i10 + 1) → ∃ j8, j8 < k6 ∧ I5 i14 i15 j8 h7)))) ∧
    (¬ (i10 : Int) < ((n3 : Nat) : Int) → Q (.int .i64 i9) h7)))) :
    Wf Try.prog K 9 [(.int .i64 ia0)] h Q :=
  vcF_sound (hs := [(3, [(3, .int .i64 0), (9, .int .i64 0)])]) hk (Eq.mpr (by kernel_rfl) H)
theorem vc_aquiferref12_Levels {K : Xs} (hk : K 20 = none) (ia0 : Int) (h : AH) (Q : Value → AH → Prop) (H :
    ∀ h0 : AH, h0 = h.alloc (.cells ([] : List Value) 3 false) →
    ((ia0 : Int) < 1 → Q (.slice (some ⟨h.next, 0, none⟩) 0 0) h0) ∧
    (¬ (ia0 : Int) < 1 → ((65535 : Int) < ia0 → Q (.slice (some ⟨h.next, 0, none⟩) 0 0) h0) ∧
    (¬ (65535 : Int) < ia0 → ∀ i1 : Int, i1 = IntKind.wrap .i64 (ia0 + 127) → (128 ≠ (0 : Int)) ∧ (∀ i2 : Int, i2 = IntKind.wrap .i64 (Int.tdiv i1 128) → ∀ h3 : AH, h3 = h0.alloc (.cells ([(.int .i64 i2)] : List Value) 3 false) →
    ∃ (p4 : Option Addr) (n5 c6 : Nat) (h7 : AH), aBuiltin Try.prog h3 .append #[28, 28] [(.slice (some ⟨h.next, 0, none⟩) 0 0), (.slice (some ⟨h0.next, 0, none⟩) 1 1)] = some (.slice p4 n5 c6, h7) ∧
    (∃ I8 : Option Addr → Nat → Nat → Int → Nat → AH → Prop, (∃ n, I8 p4 n5 c6 i2 n h7) ∧
    ∀ (k9 : Nat) (h10 : AH) (p12 : Option Addr) (n13 : Nat) (c14 : Nat) (i15 : Int), I8 p12 n13 c14 i15 k9 h10 →
    ((1 : Int) < i15 → ∀ i16 : Int, i16 = IntKind.wrap .i64 (i15 + 7) → (8 ≠ (0 : Int)) ∧ (∀ i17 : Int, i17 = IntKind.wrap .i64 (Int.tdiv i16 8) → ∀ h18 : AH, h18 = h10.alloc (.cells ([(.int .i64 i17)] : List Value) 3 false) →
    ∃ (p19 : Option Addr) (n20 c21 : Nat) (h22 : AH), aBuiltin Try.prog h18 .append #[28, 28] [(.slice p12 n13 c14), (.slice (some ⟨h10.next, 0, none⟩) 1 1)] = some (.slice p19 n20 c21, h22) ∧
    (∃ j11, j11 < k9 ∧ I8 p19 n20 c21 i17 j11 h22))) ∧
    (¬ (1 : Int) < i15 → Q (.slice p12 n13 c14) h10)))))) :
    Wf Try.prog K 20 [(.int .i64 ia0)] h Q :=
  vcF_sound (hs := [(6, [(3, .slice none 0 0), (4, .int .i64 0)])]) hk (Eq.mpr (by kernel_rfl) H)
end Go.Am
