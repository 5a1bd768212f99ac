/-
  WEAKEST CONDITIONS of some functions of this program, printed by a program.
-/
import Derived.Test.YtnapccecmcdnjacGreatAmG
import Derived.Test.YtnapccecmcdnjacGreatRows
set_option linter.unusedVariables false
set_option maxRecDepth 100000
namespace Go.Am
open Go.Proofs
theorem vc_slices_Sort___int_int_ {K : Xs} (hk : K 16 = none) (pa0 : Option Addr) (na0 ca0 : Nat) (h : AH) (Q : Value → AH → Prop) (H :
    ∀ i0 : Int, i0 = IntKind.wrap .u64 ((na0 : Nat) : Int) → Wf Tryz.prog K 33 [(.int .u64 i0)] h fun r1 h2 =>
    (∃ i3 : Int, r1 = (.int .i64 i3) ∧
    (Wf Tryz.prog K 32 [(.slice pa0 na0 ca0), (.int .i64 0), (.int .i64 ((na0 : Nat) : Int)), (.int .i64 i3)] h2 fun r4 h5 =>
    (Q (.tuple #[]) h5)))) :
    Wf Tryz.prog K 16 [(.slice pa0 na0 ca0)] h Q :=
  vcF_sound (hs := []) hk (Eq.mpr (by kernel_rfl) H)
theorem vc_slices_insertionSortOrdered_int_ {K : Xs} (hk : K 62 = none) (pa0 : Option Addr) (na0 ca0 : Nat) (ia1 : Int) (ia2 : Int) (h : AH) (Q : Value → AH → Prop) (H :
    ∀ i0 : Int, i0 = IntKind.wrap .i64 (ia1 + 1) → ∃ I1 : Int → Nat → AH → Prop, (∃ n, I1 i0 n h) ∧
    ∀ (k2 : Nat) (h3 : AH), ∀ (i5 : Int), I1 i5 k2 h3 →
    ((i5 : Int) < ia2 → ∃ I6 : Int → Nat → AH → Prop, (∃ n, I6 i5 n h3) ∧
    ∀ (k7 : Nat) (h8 : AH), ∀ (i10 : Int), I6 i10 k7 h8 →
    ((ia1 : Int) < i10 → derefP pa0 fun b11 o12 => (((0 : Int) ≤ i10) ∧ ((i10 : Int) < ((na0 : Nat) : Int)) ∧
    (∃ i13 : Int, ld1 h8 b11 (o12 + Int.toNat i10 * 1) = some (.int .i64 i13) ∧
    (∀ i14 : Int, i14 = IntKind.wrap .i64 (i10 - 1) → derefP pa0 fun b15 o16 => (((0 : Int) ≤ i14) ∧ ((i14 : Int) < ((na0 : Nat) : Int)) ∧
    (∃ i17 : Int, ld1 h8 b15 (o16 + Int.toNat i14 * 1) = some (.int .i64 i17) ∧
    (Wf Tryz.prog K 68 [(.int .i64 i13), (.int .i64 i17)] h8 fun r18 h19 =>
    (((r18 = (.bool true) ∧
    (∀ i20 : Int, i20 = IntKind.wrap .i64 (i10 - 1) → derefP pa0 fun b21 o22 => (((0 : Int) ≤ i20) ∧ ((i20 : Int) < ((na0 : Nat) : Int)) ∧
    (∃ i23 : Int, ld1 h19 b21 (o22 + Int.toNat i20 * 1) = some (.int .i64 i23) ∧
    (derefP pa0 fun b24 o25 => (((0 : Int) ≤ i10) ∧ ((i10 : Int) < ((na0 : Nat) : Int)) ∧
    (∃ i26 : Int, ld1 h19 b24 (o25 + Int.toNat i10 * 1) = some (.int .i64 i26) ∧
    (derefP pa0 fun b27 o28 => (((0 : Int) ≤ i10) ∧ ((i10 : Int) < ((na0 : Nat) : Int)) ∧
    (∃ h29 : AH, st1 h19 b27 (o28 + Int.toNat i10 * 1) (.int .i64 i23) = some h29 ∧
    (∀ i30 : Int, i30 = IntKind.wrap .i64 (i10 - 1) → derefP pa0 fun b31 o32 => (((0 : Int) ≤ i30) ∧ ((i30 : Int) < ((na0 : Nat) : Int)) ∧
    (∃ h33 : AH, st1 h29 b31 (o32 + Int.toNat i30 * 1) (.int .i64 i26) = some h33 ∧
    (∀ i34 : Int, i34 = IntKind.wrap .i64 (i10 - 1) → ∃ j9, j9 < k7 ∧ I6 i34 j9 h33)))))))))))))) ∨ (r18 = (.bool false) ∧
    (∀ i35 : Int, i35 = IntKind.wrap .i64 (i5 + 1) → ∃ j4, j4 < k2 ∧ I1 i35 j4 h19))))))))))) ∧
    (¬ (ia1 : Int) < i10 → ∀ i36 : Int, i36 = IntKind.wrap .i64 (i5 + 1) → ∃ j4, j4 < k2 ∧ I1 i36 j4 h8)) ∧
    (¬ (i5 : Int) < ia2 → Q (.tuple #[]) h3)) :
    Wf Tryz.prog K 62 [(.slice pa0 na0 ca0), (.int .i64 ia1), (.int .i64 ia2)] h Q :=
  vcF_sound (hs := [(1, [(6, .int .i64 0)]), (4, [(7, .int .i64 0)])]) hk (Eq.mpr (by kernel_rfl) H)
theorem vc_cmp_Less_int_ {K : Xs} (hk : K 68 = none) (ia0 : Int) (ia1 : Int) (h : AH) (Q : Value → AH → Prop) (H :
    Wf Tryz.prog K 104 [(.int .i64 ia0)] h fun r0 h1 =>
    (((r0 = (.bool true) ∧
    (Wf Tryz.prog K 104 [(.int .i64 ia1)] h1 fun r2 h3 =>
    (((r2 = (.bool true) ∧
    (((ia0 : Int) < ia1 → Q (.bool true) h3) ∧
    (¬ (ia0 : Int) < ia1 → Q (.bool false) h3))) ∨ (r2 = (.bool false) ∧
    (Q (.bool true) h3)))))) ∨ (r0 = (.bool false) ∧
    (((ia0 : Int) < ia1 → Q (.bool true) h1) ∧
    (¬ (ia0 : Int) < ia1 → Q (.bool false) h1)))))) :
    Wf Tryz.prog K 68 [(.int .i64 ia0), (.int .i64 ia1)] h Q :=
  vcF_sound (hs := []) hk (Eq.mpr (by kernel_rfl) H)
theorem vc_cmp_isNaN_int_ {K : Xs} (hk : K 104 = none) (ia0 : Int) (h : AH) (Q : Value → AH → Prop) (H :
    ((ia0 : Int) = ia0 → Q (.bool false) h) ∧
    (¬ (ia0 : Int) = ia0 → Q (.bool true) h)) :
    Wf Tryz.prog K 104 [(.int .i64 ia0)] h Q :=
  vcF_sound (hs := []) hk (Eq.mpr (by kernel_rfl) H)
theorem vc_bits_Len {K : Xs} (hk : K 33 = none) (ia0 : Int) (h : AH) (Q : Value → AH → Prop) (H :
    Wf Tryz.prog K 72 [(.int .u64 ia0)] h fun r0 h1 =>
    (∃ i2 : Int, r0 = (.int .i64 i2) ∧
    (Q (.int .i64 i2) h1))) :
    Wf Tryz.prog K 33 [(.int .u64 ia0)] h Q :=
  vcF_sound (hs := []) hk (Eq.mpr (by kernel_rfl) H)
theorem vc_bits_Len64 {K : Xs} (hk : K 72 = none) (ia0 : Int) (h : AH) (Q : Value → AH → Prop) (H :
    ((4294967296 : Int) ≤ ia0 → ∃ i0 : Int, aShift .shr .u64 ia0 32 = some (.int .u64 i0) ∧
    (((65536 : Int) ≤ i0 → ∃ i1 : Int, aShift .shr .u64 i0 16 = some (.int .u64 i1) ∧
    (∀ i2 : Int, i2 = IntKind.wrap .i64 (32 + 16) → ((256 : Int) ≤ i1 → ∃ i3 : Int, aShift .shr .u64 i1 8 = some (.int .u64 i3) ∧
    (∀ i4 : Int, i4 = IntKind.wrap .i64 (i2 + 8) → ∀ i5 : Int, i5 = IntKind.wrap .u8 i3 → ((0 : Int) ≤ i5) ∧ ∃ c6 : UInt8, (ByteArray.mk #[0, 1, 2, 2, 3, 3, 3, 3, 4, 4, 4, 4, 4, 4, 4, 4, 5, 5, 5, 5, 5, 5, 5, 5, 5, 5, 5, 5, 5, 5, 5, 5, 6, 6, 6, 6, 6, 6, 6, 6, 6, 6, 6, 6, 6, 6, 6, 6, 6, 6, 6, 6, 6, 6, 6, 6, 6, 6, 6, 6, 6, 6, 6, 6, 7, 7, 7, 7, 7, 7, 7, 7, 7, 7, 7, 7, 7, 7, 7, 7, 7, 7, 7, 7, 7, 7, 7, 7, 7, 7, 7, 7, 7, 7, 7, 7, 7, 7, 7, 7, 7, 7, 7, 7, 7, 7, 7, 7, 7, 7, 7, 7, 7, 7, 7, 7, 7, 7, 7, 7, 7, 7, 7, 7, 7, 7, 7, 7, 8, 8, 8, 8, 8, 8, 8, 8, 8, 8, 8, 8, 8, 8, 8, 8, 8, 8, 8, 8, 8, 8, 8, 8, 8, 8, 8, 8, 8, 8, 8, 8, 8, 8, 8, 8, 8, 8, 8, 8, 8, 8, 8, 8, 8, 8, 8, 8, 8, 8, 8, 8, 8, 8, 8, 8, 8, 8, 8, 8, 8, 8, 8, 8, 8, 8, 8, 8, 8, 8, 8, 8, 8, 8, 8, 8, 8, 8, 8, 8, 8, 8, 8, 8, 8, 8, 8, 8, 8, 8, 8, 8, 8, 8, 8, 8, 8, 8, 8, 8, 8, 8, 8, 8, 8, 8, 8, 8, 8, 8, 8, 8, 8, 8, 8, 8, 8, 8, 8, 8, 8, 8, 8, 8, 8, 8, 8, 8])[Int.toNat i5]? = some c6 ∧
    (∀ i7 : Int, i7 = IntKind.wrap .i64 ((c6.toNat : Nat) : Int) → ∀ i8 : Int, i8 = IntKind.wrap .i64 (i4 + i7) → Q (.int .i64 i8) h))) ∧
    (¬ (256 : Int) ≤ i1 → ∀ i9 : Int, i9 = IntKind.wrap .u8 i1 → ((0 : Int) ≤ i9) ∧ ∃ c10 : UInt8, (ByteArray.mk #[0, 1, 2, 2, 3, 3, 3, 3, 4, 4, 4, 4, 4, 4, 4, 4, 5, 5, 5, 5, 5, 5, 5, 5, 5, 5, 5, 5, 5, 5, 5, 5, 6, 6, 6, 6, 6, 6, 6, 6, 6, 6, 6, 6, 6, 6, 6, 6, 6, 6, 6, 6, 6, 6, 6, 6, 6, 6, 6, 6, 6, 6, 6, 6, 7, 7, 7, 7, 7, 7, 7, 7, 7, 7, 7, 7, 7, 7, 7, 7, 7, 7, 7, 7, 7, 7, 7, 7, 7, 7, 7, 7, 7, 7, 7, 7, 7, 7, 7, 7, 7, 7, 7, 7, 7, 7, 7, 7, 7, 7, 7, 7, 7, 7, 7, 7, 7, 7, 7, 7, 7, 7, 7, 7, 7, 7, 7, 7, 8, 8, 8, 8, 8, 8, 8, 8, 8, 8, 8, 8, 8, 8, 8, 8, 8, 8, 8, 8, 8, 8, 8, 8, 8, 8, 8, 8, 8, 8, 8, 8, 8, 8, 8, 8, 8, 8, 8, 8, 8, 8, 8, 8, 8, 8, 8, 8, 8, 8, 8, 8, 8, 8, 8, 8, 8, 8, 8, 8, 8, 8, 8, 8, 8, 8, 8, 8, 8, 8, 8, 8, 8, 8, 8, 8, 8, 8, 8, 8, 8, 8, 8, 8, 8, 8, 8, 8, 8, 8, 8, 8, 8, 8, 8, 8, 8, 8, 8, 8, 8, 8, 8, 8, 8, 8, 8, 8, 8, 8, 8, 8, 8, 8, 8, 8, 8, 8, 8, 8, 8, 8, 8, 8, 8, 8, 8, 8])[Int.toNat i9]? = some c10 ∧
    (∀ i11 : Int, i11 = IntKind.wrap .i64 ((c10.toNat : Nat) : Int) → ∀ i12 : Int, i12 = IntKind.wrap .i64 (i2 + i11) → Q (.int .i64 i12) h)))) ∧
    (¬ (65536 : Int) ≤ i0 → ((256 : Int) ≤ i0 → ∃ i13 : Int, aShift .shr .u64 i0 8 = some (.int .u64 i13) ∧
    (∀ i14 : Int, i14 = IntKind.wrap .i64 (32 + 8) → ∀ i15 : Int, i15 = IntKind.wrap .u8 i13 → ((0 : Int) ≤ i15) ∧ ∃ c16 : UInt8, (ByteArray.mk #[0, 1, 2, 2, 3, 3, 3, 3, 4, 4, 4, 4, 4, 4, 4, 4, 5, 5, 5, 5, 5, 5, 5, 5, 5, 5, 5, 5, 5, 5, 5, 5, 6, 6, 6, 6, 6, 6, 6, 6, 6, 6, 6, 6, 6, 6, 6, 6, 6, 6, 6, 6, 6, 6, 6, 6, 6, 6, 6, 6, 6, 6, 6, 6, 7, 7, 7, 7, 7, 7, 7, 7, 7, 7, 7, 7, 7, 7, 7, 7, 7, 7, 7, 7, 7, 7, 7, 7, 7, 7, 7, 7, 7, 7, 7, 7, 7, 7, 7, 7, 7, 7, 7, 7, 7, 7, 7, 7, 7, 7, 7, 7, 7, 7, 7, 7, 7, 7, 7, 7, 7, 7, 7, 7, 7, 7, 7, 7, 8, 8, 8, 8, 8, 8, 8, 8, 8, 8, 8, 8, 8, 8, 8, 8, 8, 8, 8, 8, 8, 8, 8, 8, 8, 8, 8, 8, 8, 8, 8, 8, 8, 8, 8, 8, 8, 8, 8, 8, 8, 8, 8, 8, 8, 8, 8, 8, 8, 8, 8, 8, 8, 8, 8, 8, 8, 8, 8, 8, 8, 8, 8, 8, 8, 8, 8, 8, 8, 8, 8, 8, 8, 8, 8, 8, 8, 8, 8, 8, 8, 8, 8, 8, 8, 8, 8, 8, 8, 8, 8, 8, 8, 8, 8, 8, 8, 8, 8, 8, 8, 8, 8, 8, 8, 8, 8, 8, 8, 8, 8, 8, 8, 8, 8, 8, 8, 8, 8, 8, 8, 8, 8, 8, 8, 8, 8, 8])[Int.toNat i15]? = some c16 ∧
    (∀ i17 : Int, i17 = IntKind.wrap .i64 ((c16.toNat : Nat) : Int) → ∀ i18 : Int, i18 = IntKind.wrap .i64 (i14 + i17) → Q (.int .i64 i18) h))) ∧
    (¬ (256 : Int) ≤ i0 → ∀ i19 : Int, i19 = IntKind.wrap .u8 i0 → ((0 : Int) ≤ i19) ∧ ∃ c20 : UInt8, (ByteArray.mk #[0, 1, 2, 2, 3, 3, 3, 3, 4, 4, 4, 4, 4, 4, 4, 4, 5, 5, 5, 5, 5, 5, 5, 5, 5, 5, 5, 5, 5, 5, 5, 5, 6, 6, 6, 6, 6, 6, 6, 6, 6, 6, 6, 6, 6, 6, 6, 6, 6, 6, 6, 6, 6, 6, 6, 6, 6, 6, 6, 6, 6, 6, 6, 6, 7, 7, 7, 7, 7, 7, 7, 7, 7, 7, 7, 7, 7, 7, 7, 7, 7, 7, 7, 7, 7, 7, 7, 7, 7, 7, 7, 7, 7, 7, 7, 7, 7, 7, 7, 7, 7, 7, 7, 7, 7, 7, 7, 7, 7, 7, 7, 7, 7, 7, 7, 7, 7, 7, 7, 7, 7, 7, 7, 7, 7, 7, 7, 7, 8, 8, 8, 8, 8, 8, 8, 8, 8, 8, 8, 8, 8, 8, 8, 8, 8, 8, 8, 8, 8, 8, 8, 8, 8, 8, 8, 8, 8, 8, 8, 8, 8, 8, 8, 8, 8, 8, 8, 8, 8, 8, 8, 8, 8, 8, 8, 8, 8, 8, 8, 8, 8, 8, 8, 8, 8, 8, 8, 8, 8, 8, 8, 8, 8, 8, 8, 8, 8, 8, 8, 8, 8, 8, 8, 8, 8, 8, 8, 8, 8, 8, 8, 8, 8, 8, 8, 8, 8, 8, 8, 8, 8, 8, 8, 8, 8, 8, 8, 8, 8, 8, 8, 8, 8, 8, 8, 8, 8, 8, 8, 8, 8, 8, 8, 8, 8, 8, 8, 8, 8, 8, 8, 8, 8, 8, 8, 8])[Int.toNat i19]? = some c20 ∧
    (∀ i21 : Int, i21 = IntKind.wrap .i64 ((c20.toNat : Nat) : Int) → ∀ i22 : Int, i22 = IntKind.wrap .i64 (32 + i21) → Q (.int .i64 i22) h))))) ∧
    (¬ (4294967296 : Int) ≤ ia0 → ((65536 : Int) ≤ ia0 → ∃ i23 : Int, aShift .shr .u64 ia0 16 = some (.int .u64 i23) ∧
    (∀ i24 : Int, i24 = IntKind.wrap .i64 (0 + 16) → ((256 : Int) ≤ i23 → ∃ i25 : Int, aShift .shr .u64 i23 8 = some (.int .u64 i25) ∧
    (∀ i26 : Int, i26 = IntKind.wrap .i64 (i24 + 8) → ∀ i27 : Int, i27 = IntKind.wrap .u8 i25 → ((0 : Int) ≤ i27) ∧ ∃ c28 : UInt8, (ByteArray.mk #[0, 1, 2, 2, 3, 3, 3, 3, 4, 4, 4, 4, 4, 4, 4, 4, 5, 5, 5, 5, 5, 5, 5, 5, 5, 5, 5, 5, 5, 5, 5, 5, 6, 6, 6, 6, 6, 6, 6, 6, 6, 6, 6, 6, 6, 6, 6, 6, 6, 6, 6, 6, 6, 6, 6, 6, 6, 6, 6, 6, 6, 6, 6, 6, 7, 7, 7, 7, 7, 7, 7, 7, 7, 7, 7, 7, 7, 7, 7, 7, 7, 7, 7, 7, 7, 7, 7, 7, 7, 7, 7, 7, 7, 7, 7, 7, 7, 7, 7, 7, 7, 7, 7, 7, 7, 7, 7, 7, 7, 7, 7, 7, 7, 7, 7, 7, 7, 7, 7, 7, 7, 7, 7, 7, 7, 7, 7, 7, 8, 8, 8, 8, 8, 8, 8, 8, 8, 8, 8, 8, 8, 8, 8, 8, 8, 8, 8, 8, 8, 8, 8, 8, 8, 8, 8, 8, 8, 8, 8, 8, 8, 8, 8, 8, 8, 8, 8, 8, 8, 8, 8, 8, 8, 8, 8, 8, 8, 8, 8, 8, 8, 8, 8, 8, 8, 8, 8, 8, 8, 8, 8, 8, 8, 8, 8, 8, 8, 8, 8, 8, 8, 8, 8, 8, 8, 8, 8, 8, 8, 8, 8, 8, 8, 8, 8, 8, 8, 8, 8, 8, 8, 8, 8, 8, 8, 8, 8, 8, 8, 8, 8, 8, 8, 8, 8, 8, 8, 8, 8, 8, 8, 8, 8, 8, 8, 8, 8, 8, 8, 8, 8, 8, 8, 8, 8, 8])[Int.toNat i27]? = some c28 ∧
    (∀ i29 : Int, i29 = IntKind.wrap .i64 ((c28.toNat : Nat) : Int) → ∀ i30 : Int, i30 = IntKind.wrap .i64 (i26 + i29) → Q (.int .i64 i30) h))) ∧
    (¬ (256 : Int) ≤ i23 → ∀ i31 : Int, i31 = IntKind.wrap .u8 i23 → ((0 : Int) ≤ i31) ∧ ∃ c32 : UInt8, (ByteArray.mk #[0, 1, 2, 2, 3, 3, 3, 3, 4, 4, 4, 4, 4, 4, 4, 4, 5, 5, 5, 5, 5, 5, 5, 5, 5, 5, 5, 5, 5, 5, 5, 5, 6, 6, 6, 6, 6, 6, 6, 6, 6, 6, 6, 6, 6, 6, 6, 6, 6, 6, 6, 6, 6, 6, 6, 6, 6, 6, 6, 6, 6, 6, 6, 6, 7, 7, 7, 7, 7, 7, 7, 7, 7, 7, 7, 7, 7, 7, 7, 7, 7, 7, 7, 7, 7, 7, 7, 7, 7, 7, 7, 7, 7, 7, 7, 7, 7, 7, 7, 7, 7, 7, 7, 7, 7, 7, 7, 7, 7, 7, 7, 7, 7, 7, 7, 7, 7, 7, 7, 7, 7, 7, 7, 7, 7, 7, 7, 7, 8, 8, 8, 8, 8, 8, 8, 8, 8, 8, 8, 8, 8, 8, 8, 8, 8, 8, 8, 8, 8, 8, 8, 8, 8, 8, 8, 8, 8, 8, 8, 8, 8, 8, 8, 8, 8, 8, 8, 8, 8, 8, 8, 8, 8, 8, 8, 8, 8, 8, 8, 8, 8, 8, 8, 8, 8, 8, 8, 8, 8, 8, 8, 8, 8, 8, 8, 8, 8, 8, 8, 8, 8, 8, 8, 8, 8, 8, 8, 8, 8, 8, 8, 8, 8, 8, 8, 8, 8, 8, 8, 8, 8, 8, 8, 8, 8, 8, 8, 8, 8, 8, 8, 8, 8, 8, 8, 8, 8, 8, 8, 8, 8, 8, 8, 8, 8, 8, 8, 8, 8, 8, 8, 8, 8, 8, 8, 8])[Int.toNat i31]? = some c32 ∧
    (∀ i33 : Int, i33 = IntKind.wrap .i64 ((c32.toNat : Nat) : Int) → ∀ i34 : Int, i34 = IntKind.wrap .i64 (i24 + i33) → Q (.int .i64 i34) h)))) ∧
    (¬ (65536 : Int) ≤ ia0 → ((256 : Int) ≤ ia0 → ∃ i35 : Int, aShift .shr .u64 ia0 8 = some (.int .u64 i35) ∧
    (∀ i36 : Int, i36 = IntKind.wrap .i64 (0 + 8) → ∀ i37 : Int, i37 = IntKind.wrap .u8 i35 → ((0 : Int) ≤ i37) ∧ ∃ c38 : UInt8, (ByteArray.mk #[0, 1, 2, 2, 3, 3, 3, 3, 4, 4, 4, 4, 4, 4, 4, 4, 5, 5, 5, 5, 5, 5, 5, 5, 5, 5, 5, 5, 5, 5, 5, 5, 6, 6, 6, 6, 6, 6, 6, 6, 6, 6, 6, 6, 6, 6, 6, 6, 6, 6, 6, 6, 6, 6, 6, 6, 6, 6, 6, 6, 6, 6, 6, 6, 7, 7, 7, 7, 7, 7, 7, 7, 7, 7, 7, 7, 7, 7, 7, 7, 7, 7, 7, 7, 7, 7, 7, 7, 7, 7, 7, 7, 7, 7, 7, 7, 7, 7, 7, 7, 7, 7, 7, 7, 7, 7, 7, 7, 7, 7, 7, 7, 7, 7, 7, 7, 7, 7, 7, 7, 7, 7, 7, 7, 7, 7, 7, 7, 8, 8, 8, 8, 8, 8, 8, 8, 8, 8, 8, 8, 8, 8, 8, 8, 8, 8, 8, 8, 8, 8, 8, 8, 8, 8, 8, 8, 8, 8, 8, 8, 8, 8, 8, 8, 8, 8, 8, 8, 8, 8, 8, 8, 8, 8, 8, 8, 8, 8, 8, 8, 8, 8, 8, 8, 8, 8, 8, 8, 8, 8, 8, 8, 8, 8, 8, 8, 8, 8, 8, 8, 8, 8, 8, 8, 8, 8, 8, 8, 8, 8, 8, 8, 8, 8, 8, 8, 8, 8, 8, 8, 8, 8, 8, 8, 8, 8, 8, 8, 8, 8, 8, 8, 8, 8, 8, 8, 8, 8, 8, 8, 8, 8, 8, 8, 8, 8, 8, 8, 8, 8, 8, 8, 8, 8, 8, 8])[Int.toNat i37]? = some c38 ∧
    (∀ i39 : Int, i39 = IntKind.wrap .i64 ((c38.toNat : Nat) : Int) → ∀ i40 : Int, i40 = IntKind.wrap .i64 (i36 + i39) → Q (.int .i64 i40) h))) ∧
    (¬ (256 : Int) ≤ ia0 → ∀ i41 : Int, i41 = IntKind.wrap .u8 ia0 → ((0 : Int) ≤ i41) ∧ ∃ c42 : UInt8, (ByteArray.mk #[0, 1, 2, 2, 3, 3, 3, 3, 4, 4, 4, 4, 4, 4, 4, 4, 5, 5, 5, 5, 5, 5, 5, 5, 5, 5, 5, 5, 5, 5, 5, 5, 6, 6, 6, 6, 6, 6, 6, 6, 6, 6, 6, 6, 6, 6, 6, 6, 6, 6, 6, 6, 6, 6, 6, 6, 6, 6, 6, 6, 6, 6, 6, 6, 7, 7, 7, 7, 7, 7, 7, 7, 7, 7, 7, 7, 7, 7, 7, 7, 7, 7, 7, 7, 7, 7, 7, 7, 7, 7, 7, 7, 7, 7, 7, 7, 7, 7, 7, 7, 7, 7, 7, 7, 7, 7, 7, 7, 7, 7, 7, 7, 7, 7, 7, 7, 7, 7, 7, 7, 7, 7, 7, 7, 7, 7, 7, 7, 8, 8, 8, 8, 8, 8, 8, 8, 8, 8, 8, 8, 8, 8, 8, 8, 8, 8, 8, 8, 8, 8, 8, 8, 8, 8, 8, 8, 8, 8, 8, 8, 8, 8, 8, 8, 8, 8, 8, 8, 8, 8, 8, 8, 8, 8, 8, 8, 8, 8, 8, 8, 8, 8, 8, 8, 8, 8, 8, 8, 8, 8, 8, 8, 8, 8, 8, 8, 8, 8, 8, 8, 8, 8, 8, 8, 8, 8, 8, 8, 8, 8, 8, 8, 8, 8, 8, 8, 8, 8, 8, 8, 8, 8, 8, 8, 8, 8, 8, 8, 8, 8, 8, 8, 8, 8, 8, 8, 8, 8, 8, 8, 8, 8, 8, 8, 8, 8, 8, 8, 8, 8, 8, 8, 8, 8, 8, 8])[Int.toNat i41]? = some c42 ∧
    (∀ i43 : Int, i43 = IntKind.wrap .i64 ((c42.toNat : Nat) : Int) → ∀ i44 : Int, i44 = IntKind.wrap .i64 (0 + i43) → Q (.int .i64 i44) h))))) :
    Wf Tryz.prog K 72 [(.int .u64 ia0)] h Q :=
  vcF_sound (hs := []) hk (Eq.mpr (by kernel_rfl) H)
end Go.Am
