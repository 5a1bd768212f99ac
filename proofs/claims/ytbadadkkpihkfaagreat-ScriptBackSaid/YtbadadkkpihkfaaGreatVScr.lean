/-
  WEAKEST CONDITIONS of some functions of this program, printed by a program.
-/
import Derived.Test.YtbadadkkpihkfaaGreatAmG
import Derived.Test.YtbadadkkpihkfaaGreatRows
set_option linter.unusedVariables false
set_option maxRecDepth 100000
namespace Go.Am
open Go.Proofs
theorem vc_field_Put {K : Xs} (hk : K 15 = none) (pa0 : Option Addr) (na0 ca0 : Nat) (pa1 : Option Addr) (na1 ca1 : Nat) (h : AH) (Q : Value → AH → Prop) (H :
    Wf Tryz.prog K 29 [(.slice pa0 na0 ca0)] h fun r0 h1 =>
    (∃ i2 : Int, ((r0 = (.tuple #[(.int .i64 i2), (.bool true)]) ∧
    (((((na1 : Nat) : Int) : Int) = ((na0 : Nat) : Int) → ∃ I3 : Int → Nat → AH → Prop, (∃ n, I3 0 n h1) ∧
    ∀ (k4 : Nat) (h5 : AH) (i7 : Int), I3 i7 k4 h5 →
    ((i7 : Int) < ((na1 : Nat) : Int) → derefP pa1 fun b8 o9 => (((0 : Int) ≤ i7) ∧ ((i7 : Int) < ((na1 : Nat) : Int)) ∧
    (∃ i10 : Int, ld1 h5 b8 (o9 + Int.toNat i7 * 1) = some (.int .u64 i10) ∧
    (derefP pa0 fun b11 o12 => (((0 : Int) ≤ i7) ∧ ((i7 : Int) < ((na0 : Nat) : Int)) ∧
    (∃ i13 : Int, ld1 h5 b11 (o12 + Int.toNat i7 * 1) = some (.int .i64 i13) ∧
    (∀ i14 : Int, i14 = IntKind.wrap .i64 (8 * i13) → ∃ i15 : Int, aShift .shr .u64 i10 i14 = some (.int .u64 i15) ∧
    (((i15 : Int) = 0 → ∀ i16 : Int, i16 = IntKind.wrap .i64 (i7 + 1) → ∃ j6, j6 < k4 ∧ I3 i16 j6 h5) ∧
    (¬ (i15 : Int) = 0 → Q (.tuple #[(.slice none 0 0), (.int .i64 21)]) h5))))))))) ∧
    (¬ (i7 : Int) < ((na1 : Nat) : Int) → ((0 : Int) ≤ 0 ∧ (0 : Int) ≤ i2 ∧ (i2 : Int) ≤ 9223372036854775807 ∧ (1 : Int) * i2 ≤ 281474976710656) ∧ ∀ h17 : AH, h17 = h5.alloc (.cells ((List.replicate (Int.toNat i2) ([(.int .u8 0)] : List Value)).flatten) 5 false) →
    ∃ I18 : Option Addr → Nat → Nat → Int → Nat → AH → Prop, (∃ n, I18 (some ⟨h5.next, 0, none⟩) (Int.toNat 0) (Int.toNat i2) 0 n h17) ∧
    ∀ (k19 : Nat) (h20 : AH) (p22 : Option Addr) (n23 : Nat) (c24 : Nat) (i25 : Int), I18 p22 n23 c24 i25 k19 h20 →
    ((i25 : Int) < ((na1 : Nat) : Int) → derefP pa1 fun b26 o27 => (((0 : Int) ≤ i25) ∧ ((i25 : Int) < ((na1 : Nat) : Int)) ∧
    (∃ i28 : Int, ld1 h20 b26 (o27 + Int.toNat i25 * 1) = some (.int .u64 i28) ∧
    (derefP pa0 fun b29 o30 => (((0 : Int) ≤ i25) ∧ ((i25 : Int) < ((na0 : Nat) : Int)) ∧
    (∃ i31 : Int, ld1 h20 b29 (o30 + Int.toNat i25 * 1) = some (.int .i64 i31) ∧
    (∃ I32 : Option Addr → Nat → Nat → Int → Nat → AH → Prop, (∃ n, I32 p22 n23 c24 0 n h20) ∧
    ∀ (k33 : Nat) (h34 : AH) (p36 : Option Addr) (n37 : Nat) (c38 : Nat) (i39 : Int), I32 p36 n37 c38 i39 k33 h34 →
    ((i39 : Int) < i31 → ∀ i40 : Int, i40 = IntKind.wrap .i64 (8 * i39) → ∃ i41 : Int, aShift .shr .u64 i28 i40 = some (.int .u64 i41) ∧
    (∀ i42 : Int, i42 = IntKind.wrap .u8 i41 → ∀ h43 : AH, h43 = h34.alloc (.cells ([(.int .u8 i42)] : List Value) 5 false) →
    ∃ (p44 : Option Addr) (n45 c46 : Nat) (h47 : AH), aBuiltin Tryz.prog h43 .append #[26, 26] [(.slice p36 n37 c38), (.slice (some ⟨h34.next, 0, none⟩) 1 1)] = some (.slice p44 n45 c46, h47) ∧
    (∀ i48 : Int, i48 = IntKind.wrap .i64 (i39 + 1) → ∃ j35, j35 < k33 ∧ I32 p44 n45 c46 i48 j35 h47))) ∧
    (¬ (i39 : Int) < i31 → ∀ i49 : Int, i49 = IntKind.wrap .i64 (i25 + 1) → ∃ j21, j21 < k19 ∧ I18 p36 n37 c38 i49 j21 h34)))))))) ∧
    (¬ (i25 : Int) < ((na1 : Nat) : Int) → Q (.tuple #[(.slice p22 n23 c24), (.int .i64 0)]) h20))) ∧
    (¬ (((na1 : Nat) : Int) : Int) = ((na0 : Nat) : Int) → Q (.tuple #[(.slice none 0 0), (.int .i64 21)]) h1))) ∨ (r0 = (.tuple #[(.int .i64 i2), (.bool false)]) ∧
    (Q (.tuple #[(.slice none 0 0), (.int .i64 21)]) h1))))) :
    Wf Tryz.prog K 15 [(.slice pa0 na0 ca0), (.slice pa1 na1 ca1)] h Q :=
  vcF_sound (hs := [(5, [(30, .int .i64 0)]), (12, [(10, .slice none 0 0), (48, .int .i64 0)]), (15, [(10, .slice none 0 0), (57, .int .i64 0)])]) hk (Eq.mpr (by kernel_rfl) H)
theorem vc_field_Get {K : Xs} (hk : K 24 = none) (pa0 : Option Addr) (na0 ca0 : Nat) (pa1 : Option Addr) (na1 ca1 : Nat) (h : AH) (Q : Value → AH → Prop) (H :
    Wf Tryz.prog K 29 [(.slice pa0 na0 ca0)] h fun r0 h1 =>
    (∃ i2 : Int, ((r0 = (.tuple #[(.int .i64 i2), (.bool true)]) ∧
    (((((na1 : Nat) : Int) : Int) = i2 → ((0 : Int) ≤ 0 ∧ (0 : Int) ≤ ((na0 : Nat) : Int) ∧ (((na0 : Nat) : Int) : Int) ≤ 9223372036854775807 ∧ (8 : Int) * ((na0 : Nat) : Int) ≤ 281474976710656) ∧ ∀ h3 : AH, h3 = h1.alloc (.cells ((List.replicate (Int.toNat ((na0 : Nat) : Int)) ([(.int .u64 0)] : List Value)).flatten) 46 false) →
    ∃ I4 : Option Addr → Nat → Nat → Option Addr → Nat → Nat → Int → Nat → AH → Prop, (∃ n, I4 pa1 na1 ca1 (some ⟨h1.next, 0, none⟩) (Int.toNat 0) (Int.toNat ((na0 : Nat) : Int)) 0 n h3) ∧
    ∀ (k5 : Nat) (h6 : AH) (p8 : Option Addr) (n9 : Nat) (c10 : Nat) (p11 : Option Addr) (n12 : Nat) (c13 : Nat) (i14 : Int), I4 p8 n9 c10 p11 n12 c13 i14 k5 h6 →
    ((i14 : Int) < ((na0 : Nat) : Int) → derefP pa0 fun b15 o16 => (((0 : Int) ≤ i14) ∧ ((i14 : Int) < ((na0 : Nat) : Int)) ∧
    (∃ i17 : Int, ld1 h6 b15 (o16 + Int.toNat i14 * 1) = some (.int .i64 i17) ∧
    (∃ I18 : Int → Int → Nat → AH → Prop, (∃ n, I18 0 0 n h6) ∧
    ∀ (k19 : Nat) (h20 : AH) (i22 : Int) (i23 : Int), I18 i22 i23 k19 h20 →
    ((i23 : Int) < i17 → derefP p8 fun b24 o25 => (((0 : Int) ≤ i23) ∧ ((i23 : Int) < ((n9 : Nat) : Int)) ∧
    (∃ i26 : Int, ld1 h20 b24 (o25 + Int.toNat i23 * 1) = some (.int .u8 i26) ∧
    (∀ i27 : Int, i27 = IntKind.wrap .u64 i26 → ∀ i28 : Int, i28 = IntKind.wrap .i64 (8 * i23) → ∃ i29 : Int, aShift .shl .u64 i27 i28 = some (.int .u64 i29) ∧
    (∃ i30 : Int, aInt .or .u64 i22 i29 = some (.int .u64 i30) ∧
    (∀ i31 : Int, i31 = IntKind.wrap .i64 (i23 + 1) → ∃ j21, j21 < k19 ∧ I18 i30 i31 j21 h20)))))) ∧
    (¬ (i23 : Int) < i17 → ∀ h32 : AH, h32 = h20.alloc (.cells ([(.int .u64 i22)] : List Value) 46 false) →
    ∃ (p33 : Option Addr) (n34 c35 : Nat) (h36 : AH), aBuiltin Tryz.prog h32 .append #[63, 63] [(.slice p11 n12 c13), (.slice (some ⟨h20.next, 0, none⟩) 1 1)] = some (.slice p33 n34 c35, h36) ∧
    (∃ (p37 : Option Addr) (n38 c39 : Nat), aSlice Tryz.prog h36 26 (.slice p8 n9 c10) (some (.int .i64 i17)) none none = some (.slice p37 n38 c39) ∧
    (∀ i40 : Int, i40 = IntKind.wrap .i64 (i14 + 1) → ∃ j7, j7 < k5 ∧ I4 p37 n38 c39 p33 n34 c35 i40 j7 h36))))))) ∧
    (¬ (i14 : Int) < ((na0 : Nat) : Int) → Q (.tuple #[(.slice p11 n12 c13), (.int .i64 0)]) h6)) ∧
    (¬ (((na1 : Nat) : Int) : Int) = i2 → Q (.tuple #[(.slice none 0 0), (.int .i64 21)]) h1))) ∨ (r0 = (.tuple #[(.int .i64 i2), (.bool false)]) ∧
    (Q (.tuple #[(.slice none 0 0), (.int .i64 21)]) h1))))) :
    Wf Tryz.prog K 24 [(.slice pa0 na0 ca0), (.slice pa1 na1 ca1)] h Q :=
  vcF_sound (hs := [(6, [(1, .slice none 0 0), (8, .slice none 0 0), (31, .int .i64 0)]), (10, [(11, .int .u64 0), (36, .int .i64 0)])]) hk (Eq.mpr (by kernel_rfl) H)
theorem vc_field_room {K : Xs} (hk : K 29 = none) (pa0 : Option Addr) (na0 ca0 : Nat) (h : AH) (Q : Value → AH → Prop) (H :
    ∃ I0 : Int → Int → Nat → AH → Prop, (∃ n, I0 0 0 n h) ∧
    ∀ (k1 : Nat) (h2 : AH) (i4 : Int) (i5 : Int), I0 i4 i5 k1 h2 →
    ((i5 : Int) < ((na0 : Nat) : Int) → derefP pa0 fun b6 o7 => (((0 : Int) ≤ i5) ∧ ((i5 : Int) < ((na0 : Nat) : Int)) ∧
    (∃ i8 : Int, ld1 h2 b6 (o7 + Int.toNat i5 * 1) = some (.int .i64 i8) ∧
    (((i8 : Int) < 1 → Q (.tuple #[(.int .i64 0), (.bool false)]) h2) ∧
    (¬ (i8 : Int) < 1 → ((8 : Int) < i8 → Q (.tuple #[(.int .i64 0), (.bool false)]) h2) ∧
    (¬ (8 : Int) < i8 → ∀ i9 : Int, i9 = IntKind.wrap .i64 (i4 + i8) → ∀ i10 : Int, i10 = IntKind.wrap .i64 (i5 + 1) → ∃ j3, j3 < k1 ∧ I0 i9 i10 j3 h2)))))) ∧
    (¬ (i5 : Int) < ((na0 : Nat) : Int) → Q (.tuple #[(.int .i64 i4), (.bool true)]) h2)) :
    Wf Tryz.prog K 29 [(.slice pa0 na0 ca0)] h Q :=
  vcF_sound (hs := [(3, [(4, .int .i64 0), (9, .int .i64 0)])]) hk (Eq.mpr (by kernel_rfl) H)
theorem vc_field_Join {K : Xs} (hk : K 17 = none) (pa0 : Option Addr) (na0 ca0 : Nat) (h : AH) (Q : Value → AH → Prop) (H :
    ((65535 : Int) < ((na0 : Nat) : Int) → Q (.tuple #[(.slice none 0 0), (.int .i64 21)]) h) ∧
    (¬ (65535 : Int) < ((na0 : Nat) : Int) → ∃ I0 : Int → Int → Nat → AH → Prop, (∃ n, I0 2 0 n h) ∧
    ∀ (k1 : Nat) (h2 : AH) (i4 : Int) (i5 : Int), I0 i4 i5 k1 h2 →
    ((i5 : Int) < ((na0 : Nat) : Int) → derefP pa0 fun b6 o7 => (((0 : Int) ≤ i5) ∧ ((i5 : Int) < ((na0 : Nat) : Int)) ∧
    (∃ (p8 : Option Addr) (n9 c10 : Nat), ld1 h2 b6 (o7 + Int.toNat i5 * 1) = some (.slice p8 n9 c10) ∧
    (((65535 : Int) < ((n9 : Nat) : Int) → Q (.tuple #[(.slice none 0 0), (.int .i64 21)]) h2) ∧
    (¬ (65535 : Int) < ((n9 : Nat) : Int) → ∀ i11 : Int, i11 = IntKind.wrap .i64 (2 + ((n9 : Nat) : Int)) → ∀ i12 : Int, i12 = IntKind.wrap .i64 (i4 + i11) → ∀ i13 : Int, i13 = IntKind.wrap .i64 (i5 + 1) → ∃ j3, j3 < k1 ∧ I0 i12 i13 j3 h2))))) ∧
    (¬ (i5 : Int) < ((na0 : Nat) : Int) → ((0 : Int) ≤ 0 ∧ (0 : Int) ≤ i4 ∧ (i4 : Int) ≤ 9223372036854775807 ∧ (1 : Int) * i4 ≤ 281474976710656) ∧ ∀ h14 : AH, h14 = h2.alloc (.cells ((List.replicate (Int.toNat i4) ([(.int .u8 0)] : List Value)).flatten) 5 false) →
    ∀ i15 : Int, i15 = IntKind.wrap .u8 ((na0 : Nat) : Int) → ∃ i16 : Int, aShift .shr .i64 ((na0 : Nat) : Int) 8 = some (.int .i64 i16) ∧
    (∀ i17 : Int, i17 = IntKind.wrap .u8 i16 → ∀ h18 : AH, h18 = h14.alloc (.cells ([(.int .u8 i15), (.int .u8 i17)] : List Value) 5 false) →
    ∃ (p19 : Option Addr) (n20 c21 : Nat) (h22 : AH), aBuiltin Tryz.prog h18 .append #[26, 26] [(.slice (some ⟨h2.next, 0, none⟩) (Int.toNat 0) (Int.toNat i4)), (.slice (some ⟨h14.next, 0, none⟩) 2 2)] = some (.slice p19 n20 c21, h22) ∧
    (∃ I23 : Option Addr → Nat → Nat → Int → Nat → AH → Prop, (∃ n, I23 p19 n20 c21 0 n h22) ∧
    ∀ (k24 : Nat) (h25 : AH) (p27 : Option Addr) (n28 : Nat) (c29 : Nat) (i30 : Int), I23 p27 n28 c29 i30 k24 h25 →
    ((i30 : Int) < ((na0 : Nat) : Int) → derefP pa0 fun b31 o32 => (((0 : Int) ≤ i30) ∧ ((i30 : Int) < ((na0 : Nat) : Int)) ∧
    (∃ (p33 : Option Addr) (n34 c35 : Nat), ld1 h25 b31 (o32 + Int.toNat i30 * 1) = some (.slice p33 n34 c35) ∧
    (∀ i36 : Int, i36 = IntKind.wrap .u8 ((n34 : Nat) : Int) → ∃ i37 : Int, aShift .shr .i64 ((n34 : Nat) : Int) 8 = some (.int .i64 i37) ∧
    (∀ i38 : Int, i38 = IntKind.wrap .u8 i37 → ∀ h39 : AH, h39 = h25.alloc (.cells ([(.int .u8 i36), (.int .u8 i38)] : List Value) 5 false) →
    ∃ (p40 : Option Addr) (n41 c42 : Nat) (h43 : AH), aBuiltin Tryz.prog h39 .append #[26, 26] [(.slice p27 n28 c29), (.slice (some ⟨h25.next, 0, none⟩) 2 2)] = some (.slice p40 n41 c42, h43) ∧
    (∃ (p44 : Option Addr) (n45 c46 : Nat) (h47 : AH), aBuiltin Tryz.prog h43 .append #[26, 26] [(.slice p40 n41 c42), (.slice p33 n34 c35)] = some (.slice p44 n45 c46, h47) ∧
    (∀ i48 : Int, i48 = IntKind.wrap .i64 (i30 + 1) → ∃ j26, j26 < k24 ∧ I23 p44 n45 c46 i48 j26 h47))))))) ∧
    (¬ (i30 : Int) < ((na0 : Nat) : Int) → Q (.tuple #[(.slice p27 n28 c29), (.int .i64 0)]) h25)))))) :
    Wf Tryz.prog K 17 [(.slice pa0 na0 ca0)] h Q :=
  vcF_sound (hs := [(5, [(4, .int .i64 0), (15, .int .i64 0)]), (14, [(7, .slice none 0 0), (42, .int .i64 0)])]) hk (Eq.mpr (by kernel_rfl) H)
theorem vc_field_Split {K : Xs} (hk : K 23 = none) (pa0 : Option Addr) (na0 ca0 : Nat) (h : AH) (Q : Value → AH → Prop) (H :
    Wf Tryz.prog K 34 [(.slice pa0 na0 ca0)] h fun r0 h1 =>
    (∃ i2 : Int, ∃ (p3 : Option Addr) (n4 c5 : Nat), ((r0 = (.tuple #[(.int .i64 i2), (.slice p3 n4 c5), (.bool true)]) ∧
    (∃ I6 : Option Addr → Nat → Nat → Option Addr → Nat → Nat → Int → Nat → AH → Prop, (∃ n, I6 p3 n4 c5 none 0 0 0 n h1) ∧
    ∀ (k7 : Nat) (h8 : AH) (p10 : Option Addr) (n11 : Nat) (c12 : Nat) (p13 : Option Addr) (n14 : Nat) (c15 : Nat) (i16 : Int), I6 p10 n11 c12 p13 n14 c15 i16 k7 h8 →
    ((i16 : Int) < i2 → Wf Tryz.prog K 34 [(.slice p10 n11 c12)] h8 fun r17 h18 =>
    (∃ i19 : Int, ∃ (p20 : Option Addr) (n21 c22 : Nat), ((r17 = (.tuple #[(.int .i64 i19), (.slice p20 n21 c22), (.bool true)]) ∧
    (((((n21 : Nat) : Int) : Int) < i19 → Q (.tuple #[(.slice none 0 0), (.int .i64 21)]) h18) ∧
    (¬ (((n21 : Nat) : Int) : Int) < i19 → ((0 : Int) ≤ i19 ∧ (i19 : Int) ≤ i19 ∧ (i19 : Int) ≤ 9223372036854775807 ∧ (1 : Int) * i19 ≤ 281474976710656) ∧ ∀ h23 : AH, h23 = h18.alloc (.cells ((List.replicate (Int.toNat i19) ([(.int .u8 0)] : List Value)).flatten) 5 false) →
    ∃ (i24 : Int) (h25 : AH), aBuiltin Tryz.prog h23 .copy #[26, 26] [(.slice (some ⟨h18.next, 0, none⟩) (Int.toNat i19) (Int.toNat i19)), (.slice p20 n21 c22)] = some (.int .i64 i24, h25) ∧
    (∀ h26 : AH, h26 = h25.alloc (.cells ([(.slice (some ⟨h18.next, 0, none⟩) (Int.toNat i19) (Int.toNat i19))] : List Value) 26 false) →
    ∃ (p27 : Option Addr) (n28 c29 : Nat) (h30 : AH), aBuiltin Tryz.prog h26 .append #[47, 47] [(.slice p13 n14 c15), (.slice (some ⟨h25.next, 0, none⟩) 1 1)] = some (.slice p27 n28 c29, h30) ∧
    (∃ (p31 : Option Addr) (n32 c33 : Nat), aSlice Tryz.prog h30 26 (.slice p20 n21 c22) (some (.int .i64 i19)) none none = some (.slice p31 n32 c33) ∧
    (∀ i34 : Int, i34 = IntKind.wrap .i64 (i16 + 1) → ∃ j9, j9 < k7 ∧ I6 p31 n32 c33 p27 n28 c29 i34 j9 h30)))))) ∨ (r17 = (.tuple #[(.int .i64 i19), (.slice p20 n21 c22), (.bool false)]) ∧
    (Q (.tuple #[(.slice none 0 0), (.int .i64 21)]) h18))))) ∧
    (¬ (i16 : Int) < i2 → ((0 : Int) < ((n11 : Nat) : Int) → Q (.tuple #[(.slice none 0 0), (.int .i64 21)]) h8) ∧
    (¬ (0 : Int) < ((n11 : Nat) : Int) → Q (.tuple #[(.slice p13 n14 c15), (.int .i64 0)]) h8)))) ∨ (r0 = (.tuple #[(.int .i64 i2), (.slice p3 n4 c5), (.bool false)]) ∧
    (Q (.tuple #[(.slice none 0 0), (.int .i64 21)]) h1))))) :
    Wf Tryz.prog K 23 [(.slice pa0 na0 ca0)] h Q :=
  vcF_sound (hs := [(6, [(0, .slice none 0 0), (6, .slice none 0 0), (20, .int .i64 0)])]) hk (Eq.mpr (by kernel_rfl) H)
theorem vc_field_length {K : Xs} (hk : K 34 = none) (pa0 : Option Addr) (na0 ca0 : Nat) (h : AH) (Q : Value → AH → Prop) (H :
    ((((na0 : Nat) : Int) : Int) < 2 → Q (.tuple #[(.int .i64 0), (.slice none 0 0), (.bool false)]) h) ∧
    (¬ (((na0 : Nat) : Int) : Int) < 2 → derefP pa0 fun b0 o1 => (((0 : Int) ≤ 0) ∧ ((0 : Int) < ((na0 : Nat) : Int)) ∧
    (∃ i2 : Int, ld1 h b0 o1 = some (.int .u8 i2) ∧
    (∀ i3 : Int, i3 = IntKind.wrap .i64 i2 → derefP pa0 fun b4 o5 => (((0 : Int) ≤ 1) ∧ ((1 : Int) < ((na0 : Nat) : Int)) ∧
    (∃ i6 : Int, ld1 h b4 (o5 + 1) = some (.int .u8 i6) ∧
    (∀ i7 : Int, i7 = IntKind.wrap .i64 i6 → ∃ i8 : Int, aShift .shl .i64 i7 8 = some (.int .i64 i8) ∧
    (∃ i9 : Int, aInt .or .i64 i3 i8 = some (.int .i64 i9) ∧
    (∃ (p10 : Option Addr) (n11 c12 : Nat), aSlice Tryz.prog h 26 (.slice pa0 na0 ca0) (some (.int .i64 2)) none none = some (.slice p10 n11 c12) ∧
    (Q (.tuple #[(.int .i64 i9), (.slice p10 n11 c12), (.bool true)]) h))))))))))) :
    Wf Tryz.prog K 34 [(.slice pa0 na0 ca0)] h Q :=
  vcF_sound (hs := []) hk (Eq.mpr (by kernel_rfl) H)
theorem vc_script_Bytes {K : Xs} (hk : K 7 = none) (ia0_0 : Int) (pa0_1 : Option Addr) (na0_1 ca0_1 : Nat) (h : AH) (Q : Value → AH → Prop) (H :
    ∀ h0 : AH, h0 = h.alloc (.cells ([(.int .i64 ia0_0), (.slice pa0_1 na0_1 ca0_1)] : List Value) 24 false) →
    ∃ i1 : Int, ∃ (p2 : Option Addr) (n3 c4 : Nat), ldN h0 h.next 0 2 = some ([(.int .i64 i1), (.slice p2 n3 c4)] : List Value) ∧
    (Wf Tryz.prog K 10 [(.agg #[(.int .i64 i1), (.slice p2 n3 c4)])] h0 fun r5 h6 =>
    (((r5 = (.bool true) ∧
    (∀ h7 : AH, h7 = h6.alloc (.cells ([(.int .i64 2)] : List Value) 3 false) →
    ∃ i8 : Int, ld1 h7 h.next 0 = some (.int .i64 i8) ∧
    (∀ i9 : Int, i9 = IntKind.wrap .u64 i8 → ∀ h10 : AH, h10 = h7.alloc (.cells ([(.int .u64 i9)] : List Value) 46 false) →
    Wf Tryz.prog K 15 [(.slice (some ⟨h6.next, 0, none⟩) 1 1), (.slice (some ⟨h7.next, 0, none⟩) 1 1)] h10 fun r11 h12 =>
    (∃ (p13 : Option Addr) (n14 c15 : Nat), ∃ i16 : Int, r11 = (.tuple #[(.slice p13 n14 c15), (.int .i64 i16)]) ∧
    (((i16 : Int) = 0 → ∀ h17 : AH, h17 = h12.alloc (.cells ([(.slice p13 n14 c15)] : List Value) 26 false) →
    ∃ (p18 : Option Addr) (n19 c20 : Nat), ld1 h17 h.next 1 = some (.slice p18 n19 c20) ∧
    (∃ I21 : Option Addr → Nat → Nat → Int → Nat → AH → Prop, (∃ n, I21 (some ⟨h12.next, 0, none⟩) 1 1 0 n h17) ∧
    ∀ (k22 : Nat) (h23 : AH) (p25 : Option Addr) (n26 : Nat) (c27 : Nat) (i28 : Int), I21 p25 n26 c27 i28 k22 h23 →
    ((i28 : Int) < ((n19 : Nat) : Int) → ∃ (p29 : Option Addr) (n30 c31 : Nat), ld1 h23 h.next 1 = some (.slice p29 n30 c31) ∧
    (derefP p29 fun b32 o33 => (((0 : Int) ≤ i28) ∧ ((i28 : Int) < ((n30 : Nat) : Int)) ∧
    (Wf Tryz.prog K 16 [(.pointer (some ⟨b32, (o33 + Int.toNat i28 * 6), none⟩))] h23 fun r34 h35 =>
    (∃ (p36 : Option Addr) (n37 c38 : Nat), ∃ i39 : Int, r34 = (.tuple #[(.slice p36 n37 c38), (.int .i64 i39)]) ∧
    (((i39 : Int) = 0 → ∀ h40 : AH, h40 = h35.alloc (.cells ([(.slice p36 n37 c38)] : List Value) 26 false) →
    ∃ (p41 : Option Addr) (n42 c43 : Nat) (h44 : AH), aBuiltin Tryz.prog h40 .append #[47, 47] [(.slice p25 n26 c27), (.slice (some ⟨h35.next, 0, none⟩) 1 1)] = some (.slice p41 n42 c43, h44) ∧
    (∀ i45 : Int, i45 = IntKind.wrap .i64 (i28 + 1) → ∃ j24, j24 < k22 ∧ I21 p41 n42 c43 i45 j24 h44)) ∧
    (¬ (i39 : Int) = 0 → Q (.tuple #[(.slice none 0 0), (.int .i64 231)]) h35))))))) ∧
    (¬ (i28 : Int) < ((n19 : Nat) : Int) → Wf Tryz.prog K 17 [(.slice p25 n26 c27)] h23 fun r46 h47 =>
    (∃ (p48 : Option Addr) (n49 c50 : Nat), ∃ i51 : Int, r46 = (.tuple #[(.slice p48 n49 c50), (.int .i64 i51)]) ∧
    (((i51 : Int) = 0 → Q (.tuple #[(.slice p48 n49 c50), (.int .i64 0)]) h47) ∧
    (¬ (i51 : Int) = 0 → Q (.tuple #[(.slice none 0 0), (.int .i64 231)]) h47)))))) ∧
    (¬ (i16 : Int) = 0 → Q (.tuple #[(.slice none 0 0), (.int .i64 231)]) h12)))))) ∨ (r5 = (.bool false) ∧
    (Q (.tuple #[(.slice none 0 0), (.int .i64 231)]) h6)))))) :
    Wf Tryz.prog K 7 [(.agg #[(.int .i64 ia0_0), (.slice pa0_1 na0_1 ca0_1)])] h Q :=
  vcF_sound (hs := [(8, [(6, .slice none 0 0), (30, .int .i64 0)])]) hk (Eq.mpr (by kernel_rfl) H)
theorem vc_script_opBytes {K : Xs} (hk : K 16 = none) (pa0 : Option Addr) (h : AH) (Q : Value → AH → Prop) (H :
    derefP pa0 fun b0 o1 => (∃ i2 : Int, ld1 h b0 (o1 + 3) = some (.int .i64 i2) ∧
    (((0 : Int) ≤ i2 → derefP pa0 fun b3 o4 => (∃ i5 : Int, ld1 h b3 (o4 + 3) = some (.int .i64 i5) ∧
    (∀ i6 : Int, i6 = IntKind.wrap .u64 i5 → ∀ h7 : AH, h7 = h.alloc (.cells ([(.int .i64 1), (.int .i64 2)] : List Value) 3 false) →
    derefP pa0 fun b8 o9 => (∃ i10 : Int, ld1 h7 b8 o9 = some (.int .i64 i10) ∧
    (∀ i11 : Int, i11 = IntKind.wrap .u64 i10 → ∀ h12 : AH, h12 = h7.alloc (.cells ([(.int .u64 i11), (.int .u64 i6)] : List Value) 46 false) →
    Wf Tryz.prog K 15 [(.slice (some ⟨h.next, 0, none⟩) 2 2), (.slice (some ⟨h7.next, 0, none⟩) 2 2)] h12 fun r13 h14 =>
    (∃ (p15 : Option Addr) (n16 c17 : Nat), ∃ i18 : Int, r13 = (.tuple #[(.slice p15 n16 c17), (.int .i64 i18)]) ∧
    (((i18 : Int) = 0 → derefP pa0 fun b19 o20 => (∃ (p21 : Option Addr) (n22 c23 : Nat), ld1 h14 b19 (o20 + 5) = some (.slice p21 n22 c23) ∧
    (((0 : Int) ≤ ((n22 : Nat) : Int) ∧ (((n22 : Nat) : Int) : Int) ≤ ((n22 : Nat) : Int) ∧ (((n22 : Nat) : Int) : Int) ≤ 9223372036854775807 ∧ (1 : Int) * ((n22 : Nat) : Int) ≤ 281474976710656) ∧ ∀ h24 : AH, h24 = h14.alloc (.cells ((List.replicate (Int.toNat ((n22 : Nat) : Int)) ([(.int .u8 0)] : List Value)).flatten) 5 false) →
    derefP pa0 fun b25 o26 => (∃ (p27 : Option Addr) (n28 c29 : Nat), ld1 h24 b25 (o26 + 5) = some (.slice p27 n28 c29) ∧
    (∃ I30 : Int → Nat → AH → Prop, (∃ n, I30 0 n h24) ∧
    ∀ (k31 : Nat) (h32 : AH) (i34 : Int), I30 i34 k31 h32 →
    ((i34 : Int) < ((n28 : Nat) : Int) → derefP p27 fun b35 o36 => (((0 : Int) ≤ i34) ∧ ((i34 : Int) < ((n28 : Nat) : Int)) ∧
    (((ld1 h32 b35 (o36 + Int.toNat i34 * 1) = some (.bool true) ∧
    (((0 : Int) ≤ i34) ∧ ((i34 : Int) < (((Int.toNat ((n22 : Nat) : Int)) : Nat) : Int)) ∧
    (∃ h37 : AH, st1 h32 h14.next (0 + Int.toNat i34 * 1) (.int .u8 1) = some h37 ∧
    (∀ i38 : Int, i38 = IntKind.wrap .i64 (i34 + 1) → ∃ j33, j33 < k31 ∧ I30 i38 j33 h37)))) ∨ (ld1 h32 b35 (o36 + Int.toNat i34 * 1) = some (.bool false) ∧
    (∀ i39 : Int, i39 = IntKind.wrap .i64 (i34 + 1) → ∃ j33, j33 < k31 ∧ I30 i39 j33 h32)))))) ∧
    (¬ (i34 : Int) < ((n28 : Nat) : Int) → derefP pa0 fun b40 o41 => (∃ s42 : ByteArray, ld1 h32 b40 (o41 + 1) = some (.string s42) ∧
    (∃ (p43 : Option Addr) (n44 c45 : Nat) (h46 : AH), aConvert Tryz.prog h32 9 26 (.string s42) = some (.slice p43 n44 c45, h46) ∧
    (derefP pa0 fun b47 o48 => (∃ s49 : ByteArray, ld1 h46 b47 (o48 + 2) = some (.string s49) ∧
    (∃ (p50 : Option Addr) (n51 c52 : Nat) (h53 : AH), aConvert Tryz.prog h46 9 26 (.string s49) = some (.slice p50 n51 c52, h53) ∧
    (derefP pa0 fun b54 o55 => (∃ (p56 : Option Addr) (n57 c58 : Nat), ld1 h53 b54 (o55 + 4) = some (.slice p56 n57 c58) ∧
    (∀ h59 : AH, h59 = h53.alloc (.cells ([(.slice p15 n16 c17), (.slice p43 n44 c45), (.slice p50 n51 c52), (.slice p56 n57 c58), (.slice (some ⟨h14.next, 0, none⟩) (Int.toNat ((n22 : Nat) : Int)) (Int.toNat ((n22 : Nat) : Int)))] : List Value) 26 false) →
    Wf Tryz.prog K 17 [(.slice (some ⟨h53.next, 0, none⟩) 5 5)] h59 fun r60 h61 =>
    (∃ (p62 : Option Addr) (n63 c64 : Nat), ∃ i65 : Int, r60 = (.tuple #[(.slice p62 n63 c64), (.int .i64 i65)]) ∧
    (Q (.tuple #[(.slice p62 n63 c64), (.int .i64 i65)]) h61)))))))))))))))) ∧
    (¬ (i18 : Int) = 0 → Q (.tuple #[(.slice none 0 0), (.int .i64 i18)]) h14)))))))) ∧
    (¬ (0 : Int) ≤ i2 → ∀ h66 : AH, h66 = h.alloc (.cells ([(.int .i64 1), (.int .i64 2)] : List Value) 3 false) →
    derefP pa0 fun b67 o68 => (∃ i69 : Int, ld1 h66 b67 o68 = some (.int .i64 i69) ∧
    (∀ i70 : Int, i70 = IntKind.wrap .u64 i69 → ∀ h71 : AH, h71 = h66.alloc (.cells ([(.int .u64 i70), (.int .u64 65535)] : List Value) 46 false) →
    Wf Tryz.prog K 15 [(.slice (some ⟨h.next, 0, none⟩) 2 2), (.slice (some ⟨h66.next, 0, none⟩) 2 2)] h71 fun r72 h73 =>
    (∃ (p74 : Option Addr) (n75 c76 : Nat), ∃ i77 : Int, r72 = (.tuple #[(.slice p74 n75 c76), (.int .i64 i77)]) ∧
    (((i77 : Int) = 0 → derefP pa0 fun b78 o79 => (∃ (p80 : Option Addr) (n81 c82 : Nat), ld1 h73 b78 (o79 + 5) = some (.slice p80 n81 c82) ∧
    (((0 : Int) ≤ ((n81 : Nat) : Int) ∧ (((n81 : Nat) : Int) : Int) ≤ ((n81 : Nat) : Int) ∧ (((n81 : Nat) : Int) : Int) ≤ 9223372036854775807 ∧ (1 : Int) * ((n81 : Nat) : Int) ≤ 281474976710656) ∧ ∀ h83 : AH, h83 = h73.alloc (.cells ((List.replicate (Int.toNat ((n81 : Nat) : Int)) ([(.int .u8 0)] : List Value)).flatten) 5 false) →
    derefP pa0 fun b84 o85 => (∃ (p86 : Option Addr) (n87 c88 : Nat), ld1 h83 b84 (o85 + 5) = some (.slice p86 n87 c88) ∧
    (∃ I89 : Int → Nat → AH → Prop, (∃ n, I89 0 n h83) ∧
    ∀ (k90 : Nat) (h91 : AH) (i93 : Int), I89 i93 k90 h91 →
    ((i93 : Int) < ((n87 : Nat) : Int) → derefP p86 fun b94 o95 => (((0 : Int) ≤ i93) ∧ ((i93 : Int) < ((n87 : Nat) : Int)) ∧
    (((ld1 h91 b94 (o95 + Int.toNat i93 * 1) = some (.bool true) ∧
    (((0 : Int) ≤ i93) ∧ ((i93 : Int) < (((Int.toNat ((n81 : Nat) : Int)) : Nat) : Int)) ∧
    (∃ h96 : AH, st1 h91 h73.next (0 + Int.toNat i93 * 1) (.int .u8 1) = some h96 ∧
    (∀ i97 : Int, i97 = IntKind.wrap .i64 (i93 + 1) → ∃ j92, j92 < k90 ∧ I89 i97 j92 h96)))) ∨ (ld1 h91 b94 (o95 + Int.toNat i93 * 1) = some (.bool false) ∧
    (∀ i98 : Int, i98 = IntKind.wrap .i64 (i93 + 1) → ∃ j92, j92 < k90 ∧ I89 i98 j92 h91)))))) ∧
    (¬ (i93 : Int) < ((n87 : Nat) : Int) → derefP pa0 fun b99 o100 => (∃ s101 : ByteArray, ld1 h91 b99 (o100 + 1) = some (.string s101) ∧
    (∃ (p102 : Option Addr) (n103 c104 : Nat) (h105 : AH), aConvert Tryz.prog h91 9 26 (.string s101) = some (.slice p102 n103 c104, h105) ∧
    (derefP pa0 fun b106 o107 => (∃ s108 : ByteArray, ld1 h105 b106 (o107 + 2) = some (.string s108) ∧
    (∃ (p109 : Option Addr) (n110 c111 : Nat) (h112 : AH), aConvert Tryz.prog h105 9 26 (.string s108) = some (.slice p109 n110 c111, h112) ∧
    (derefP pa0 fun b113 o114 => (∃ (p115 : Option Addr) (n116 c117 : Nat), ld1 h112 b113 (o114 + 4) = some (.slice p115 n116 c117) ∧
    (∀ h118 : AH, h118 = h112.alloc (.cells ([(.slice p74 n75 c76), (.slice p102 n103 c104), (.slice p109 n110 c111), (.slice p115 n116 c117), (.slice (some ⟨h73.next, 0, none⟩) (Int.toNat ((n81 : Nat) : Int)) (Int.toNat ((n81 : Nat) : Int)))] : List Value) 26 false) →
    Wf Tryz.prog K 17 [(.slice (some ⟨h112.next, 0, none⟩) 5 5)] h118 fun r119 h120 =>
    (∃ (p121 : Option Addr) (n122 c123 : Nat), ∃ i124 : Int, r119 = (.tuple #[(.slice p121 n122 c123), (.int .i64 i124)]) ∧
    (Q (.tuple #[(.slice p121 n122 c123), (.int .i64 i124)]) h120)))))))))))))))) ∧
    (¬ (i77 : Int) = 0 → Q (.tuple #[(.slice none 0 0), (.int .i64 i77)]) h73))))))))) :
    Wf Tryz.prog K 16 [(.pointer pa0)] h Q :=
  vcF_sound (hs := [(9, [(46, .int .i64 0)])]) hk (Eq.mpr (by kernel_rfl) H)
theorem vc_script_Right {K : Xs} (hk : K 10 = none) (ia0_0 : Int) (pa0_1 : Option Addr) (na0_1 ca0_1 : Nat) (h : AH) (Q : Value → AH → Prop) (H :
    ∀ h0 : AH, h0 = h.alloc (.cells ([(.int .i64 ia0_0), (.slice pa0_1 na0_1 ca0_1)] : List Value) 24 false) →
    ∃ i1 : Int, ld1 h0 h.next 0 = some (.int .i64 i1) ∧
    (((i1 : Int) < 64 → Q (.bool false) h0) ∧
    (¬ (i1 : Int) < 64 → ∃ i2 : Int, ld1 h0 h.next 0 = some (.int .i64 i2) ∧
    (((1024 : Int) < i2 → Q (.bool false) h0) ∧
    (¬ (1024 : Int) < i2 → ∃ (p3 : Option Addr) (n4 c5 : Nat), ld1 h0 h.next 1 = some (.slice p3 n4 c5) ∧
    (((200 : Int) < ((n4 : Nat) : Int) → Q (.bool false) h0) ∧
    (¬ (200 : Int) < ((n4 : Nat) : Int) → ∃ (p6 : Option Addr) (n7 c8 : Nat), ld1 h0 h.next 1 = some (.slice p6 n7 c8) ∧
    (∃ I9 : Int → Nat → AH → Prop, (∃ n, I9 0 n h0) ∧
    ∀ (k10 : Nat) (h11 : AH) (i13 : Int), I9 i13 k10 h11 →
    ((i13 : Int) < ((n7 : Nat) : Int) → ∃ (p14 : Option Addr) (n15 c16 : Nat), ld1 h11 h.next 1 = some (.slice p14 n15 c16) ∧
    (derefP p14 fun b17 o18 => (((0 : Int) ≤ i13) ∧ ((i13 : Int) < ((n15 : Nat) : Int)) ∧
    (Wf Tryz.prog K 20 [(.pointer (some ⟨b17, (o18 + Int.toNat i13 * 6), none⟩))] h11 fun r19 h20 =>
    (((r19 = (.bool true) ∧
    (∀ i21 : Int, i21 = IntKind.wrap .i64 (i13 + 1) → ∃ j12, j12 < k10 ∧ I9 i21 j12 h20)) ∨ (r19 = (.bool false) ∧
    (Q (.bool false) h20)))))))) ∧
    (¬ (i13 : Int) < ((n7 : Nat) : Int) → Q (.bool true) h11))))))))) :
    Wf Tryz.prog K 10 [(.agg #[(.int .i64 ia0_0), (.slice pa0_1 na0_1 ca0_1)])] h Q :=
  vcF_sound (hs := [(4, [(21, .int .i64 0)])]) hk (Eq.mpr (by kernel_rfl) H)
theorem vc_script_opRight {K : Xs} (hk : K 20 = none) (pa0 : Option Addr) (h : AH) (Q : Value → AH → Prop) (H :
    derefP pa0 fun b0 o1 => (∃ i2 : Int, ld1 h b0 o1 = some (.int .i64 i2) ∧
    (Wf Tryz.prog K 32 [(.int .i64 i2)] h fun r3 h4 =>
    (∃ b5 : Bool, ∃ b6 : Bool, ∃ b7 : Bool, ∃ b8 : Bool, ∃ b9 : Bool, ((r3 = (.tuple #[(.agg #[(.bool b5), (.bool b6), (.bool b7), (.bool b8), (.bool b9)]), (.bool true)]) ∧
    (∀ h10 : AH, h10 = h4.alloc (.cells ([(.bool false), (.bool false), (.bool false), (.bool false), (.bool false)] : List Value) 79 false) →
    (List.length ([(.bool b5), (.bool b6), (.bool b7), (.bool b8), (.bool b9)] : List Value) = 5) ∧ ∃ h11 : AH, stN h10 h4.next 0 ([(.bool b5), (.bool b6), (.bool b7), (.bool b8), (.bool b9)] : List Value) = some h11 ∧
    (((ld1 h11 h4.next 0 = some (.bool true) ∧
    (derefP pa0 fun b12 o13 => (∃ s14 : ByteArray, ld1 h11 b12 (o13 + 1) = some (.string s14) ∧
    (((((ByteArray.size s14 : Nat) : Int) : Int) ≤ 60 → ((ld1 h11 h4.next 1 = some (.bool true) ∧
    (derefP pa0 fun b15 o16 => (∃ s17 : ByteArray, ld1 h11 b15 (o16 + 2) = some (.string s17) ∧
    (((((ByteArray.size s17 : Nat) : Int) : Int) ≤ 60 → ((ld1 h11 h4.next 2 = some (.bool true) ∧
    (derefP pa0 fun b18 o19 => (∃ i20 : Int, ld1 h11 b18 (o19 + 3) = some (.int .i64 i20) ∧
    ((((-1) : Int) ≤ i20 → derefP pa0 fun b21 o22 => (∃ i23 : Int, ld1 h11 b21 (o22 + 3) = some (.int .i64 i23) ∧
    (((i23 : Int) ≤ 65534 → ((ld1 h11 h4.next 3 = some (.bool true) ∧
    (derefP pa0 fun b24 o25 => (∃ (p26 : Option Addr) (n27 c28 : Nat), ld1 h11 b24 (o25 + 4) = some (.slice p26 n27 c28) ∧
    (((((n27 : Nat) : Int) : Int) ≤ 129 → ((ld1 h11 h4.next 4 = some (.bool true) ∧
    (derefP pa0 fun b29 o30 => (∃ (p31 : Option Addr) (n32 c33 : Nat), ld1 h11 b29 (o30 + 5) = some (.slice p31 n32 c33) ∧
    (((((n32 : Nat) : Int) : Int) ≤ 64 → Q (.bool true) h11) ∧
    (¬ (((n32 : Nat) : Int) : Int) ≤ 64 → Q (.bool false) h11))))) ∨ (ld1 h11 h4.next 4 = some (.bool false) ∧
    (derefP pa0 fun b34 o35 => (∃ (p36 : Option Addr) (n37 c38 : Nat), ld1 h11 b34 (o35 + 5) = some (.slice p36 n37 c38) ∧
    (((((n37 : Nat) : Int) : Int) = 0 → derefP pa0 fun b39 o40 => (∃ (p41 : Option Addr) (n42 c43 : Nat), ld1 h11 b39 (o40 + 5) = some (.slice p41 n42 c43) ∧
    (((((n42 : Nat) : Int) : Int) ≤ 64 → Q (.bool true) h11) ∧
    (¬ (((n42 : Nat) : Int) : Int) ≤ 64 → Q (.bool false) h11)))) ∧
    (¬ (((n37 : Nat) : Int) : Int) = 0 → Q (.bool false) h11))))))) ∧
    (¬ (((n27 : Nat) : Int) : Int) ≤ 129 → Q (.bool false) h11))))) ∨ (ld1 h11 h4.next 3 = some (.bool false) ∧
    (derefP pa0 fun b44 o45 => (∃ (p46 : Option Addr) (n47 c48 : Nat), ld1 h11 b44 (o45 + 4) = some (.slice p46 n47 c48) ∧
    (((((n47 : Nat) : Int) : Int) = 0 → derefP pa0 fun b49 o50 => (∃ (p51 : Option Addr) (n52 c53 : Nat), ld1 h11 b49 (o50 + 4) = some (.slice p51 n52 c53) ∧
    (((((n52 : Nat) : Int) : Int) ≤ 129 → ((ld1 h11 h4.next 4 = some (.bool true) ∧
    (derefP pa0 fun b54 o55 => (∃ (p56 : Option Addr) (n57 c58 : Nat), ld1 h11 b54 (o55 + 5) = some (.slice p56 n57 c58) ∧
    (((((n57 : Nat) : Int) : Int) ≤ 64 → Q (.bool true) h11) ∧
    (¬ (((n57 : Nat) : Int) : Int) ≤ 64 → Q (.bool false) h11))))) ∨ (ld1 h11 h4.next 4 = some (.bool false) ∧
    (derefP pa0 fun b59 o60 => (∃ (p61 : Option Addr) (n62 c63 : Nat), ld1 h11 b59 (o60 + 5) = some (.slice p61 n62 c63) ∧
    (((((n62 : Nat) : Int) : Int) = 0 → derefP pa0 fun b64 o65 => (∃ (p66 : Option Addr) (n67 c68 : Nat), ld1 h11 b64 (o65 + 5) = some (.slice p66 n67 c68) ∧
    (((((n67 : Nat) : Int) : Int) ≤ 64 → Q (.bool true) h11) ∧
    (¬ (((n67 : Nat) : Int) : Int) ≤ 64 → Q (.bool false) h11)))) ∧
    (¬ (((n62 : Nat) : Int) : Int) = 0 → Q (.bool false) h11))))))) ∧
    (¬ (((n52 : Nat) : Int) : Int) ≤ 129 → Q (.bool false) h11)))) ∧
    (¬ (((n47 : Nat) : Int) : Int) = 0 → Q (.bool false) h11))))))) ∧
    (¬ (i23 : Int) ≤ 65534 → Q (.bool false) h11)))) ∧
    (¬ ((-1) : Int) ≤ i20 → Q (.bool false) h11))))) ∨ (ld1 h11 h4.next 2 = some (.bool false) ∧
    (derefP pa0 fun b69 o70 => (∃ i71 : Int, ld1 h11 b69 (o70 + 3) = some (.int .i64 i71) ∧
    (((i71 : Int) = 0 → derefP pa0 fun b72 o73 => (∃ i74 : Int, ld1 h11 b72 (o73 + 3) = some (.int .i64 i74) ∧
    ((((-1) : Int) ≤ i74 → derefP pa0 fun b75 o76 => (∃ i77 : Int, ld1 h11 b75 (o76 + 3) = some (.int .i64 i77) ∧
    (((i77 : Int) ≤ 65534 → ((ld1 h11 h4.next 3 = some (.bool true) ∧
    (derefP pa0 fun b78 o79 => (∃ (p80 : Option Addr) (n81 c82 : Nat), ld1 h11 b78 (o79 + 4) = some (.slice p80 n81 c82) ∧
    (((((n81 : Nat) : Int) : Int) ≤ 129 → ((ld1 h11 h4.next 4 = some (.bool true) ∧
    (derefP pa0 fun b83 o84 => (∃ (p85 : Option Addr) (n86 c87 : Nat), ld1 h11 b83 (o84 + 5) = some (.slice p85 n86 c87) ∧
    (((((n86 : Nat) : Int) : Int) ≤ 64 → Q (.bool true) h11) ∧
    (¬ (((n86 : Nat) : Int) : Int) ≤ 64 → Q (.bool false) h11))))) ∨ (ld1 h11 h4.next 4 = some (.bool false) ∧
    (derefP pa0 fun b88 o89 => (∃ (p90 : Option Addr) (n91 c92 : Nat), ld1 h11 b88 (o89 + 5) = some (.slice p90 n91 c92) ∧
    (((((n91 : Nat) : Int) : Int) = 0 → derefP pa0 fun b93 o94 => (∃ (p95 : Option Addr) (n96 c97 : Nat), ld1 h11 b93 (o94 + 5) = some (.slice p95 n96 c97) ∧
    (((((n96 : Nat) : Int) : Int) ≤ 64 → Q (.bool true) h11) ∧
    (¬ (((n96 : Nat) : Int) : Int) ≤ 64 → Q (.bool false) h11)))) ∧
    (¬ (((n91 : Nat) : Int) : Int) = 0 → Q (.bool false) h11))))))) ∧
    (¬ (((n81 : Nat) : Int) : Int) ≤ 129 → Q (.bool false) h11))))) ∨ (ld1 h11 h4.next 3 = some (.bool false) ∧
    (derefP pa0 fun b98 o99 => (∃ (p100 : Option Addr) (n101 c102 : Nat), ld1 h11 b98 (o99 + 4) = some (.slice p100 n101 c102) ∧
    (((((n101 : Nat) : Int) : Int) = 0 → derefP pa0 fun b103 o104 => (∃ (p105 : Option Addr) (n106 c107 : Nat), ld1 h11 b103 (o104 + 4) = some (.slice p105 n106 c107) ∧
    (((((n106 : Nat) : Int) : Int) ≤ 129 → ((ld1 h11 h4.next 4 = some (.bool true) ∧
    (derefP pa0 fun b108 o109 => (∃ (p110 : Option Addr) (n111 c112 : Nat), ld1 h11 b108 (o109 + 5) = some (.slice p110 n111 c112) ∧
    (((((n111 : Nat) : Int) : Int) ≤ 64 → Q (.bool true) h11) ∧
    (¬ (((n111 : Nat) : Int) : Int) ≤ 64 → Q (.bool false) h11))))) ∨ (ld1 h11 h4.next 4 = some (.bool false) ∧
    (derefP pa0 fun b113 o114 => (∃ (p115 : Option Addr) (n116 c117 : Nat), ld1 h11 b113 (o114 + 5) = some (.slice p115 n116 c117) ∧
    (((((n116 : Nat) : Int) : Int) = 0 → derefP pa0 fun b118 o119 => (∃ (p120 : Option Addr) (n121 c122 : Nat), ld1 h11 b118 (o119 + 5) = some (.slice p120 n121 c122) ∧
    (((((n121 : Nat) : Int) : Int) ≤ 64 → Q (.bool true) h11) ∧
    (¬ (((n121 : Nat) : Int) : Int) ≤ 64 → Q (.bool false) h11)))) ∧
    (¬ (((n116 : Nat) : Int) : Int) = 0 → Q (.bool false) h11))))))) ∧
    (¬ (((n106 : Nat) : Int) : Int) ≤ 129 → Q (.bool false) h11)))) ∧
    (¬ (((n101 : Nat) : Int) : Int) = 0 → Q (.bool false) h11))))))) ∧
    (¬ (i77 : Int) ≤ 65534 → Q (.bool false) h11)))) ∧
    (¬ ((-1) : Int) ≤ i74 → Q (.bool false) h11)))) ∧
    (¬ (i71 : Int) = 0 → Q (.bool false) h11))))))) ∧
    (¬ (((ByteArray.size s17 : Nat) : Int) : Int) ≤ 60 → Q (.bool false) h11))))) ∨ (ld1 h11 h4.next 1 = some (.bool false) ∧
    (derefP pa0 fun b123 o124 => (∃ s125 : ByteArray, ld1 h11 b123 (o124 + 2) = some (.string s125) ∧
    ((s125 = (ByteArray.mk #[]) → derefP pa0 fun b126 o127 => (∃ s128 : ByteArray, ld1 h11 b126 (o127 + 2) = some (.string s128) ∧
    (((((ByteArray.size s128 : Nat) : Int) : Int) ≤ 60 → ((ld1 h11 h4.next 2 = some (.bool true) ∧
    (derefP pa0 fun b129 o130 => (∃ i131 : Int, ld1 h11 b129 (o130 + 3) = some (.int .i64 i131) ∧
    ((((-1) : Int) ≤ i131 → derefP pa0 fun b132 o133 => (∃ i134 : Int, ld1 h11 b132 (o133 + 3) = some (.int .i64 i134) ∧
    (((i134 : Int) ≤ 65534 → ((ld1 h11 h4.next 3 = some (.bool true) ∧
    (derefP pa0 fun b135 o136 => (∃ (p137 : Option Addr) (n138 c139 : Nat), ld1 h11 b135 (o136 + 4) = some (.slice p137 n138 c139) ∧
    (((((n138 : Nat) : Int) : Int) ≤ 129 → ((ld1 h11 h4.next 4 = some (.bool true) ∧
    (derefP pa0 fun b140 o141 => (∃ (p142 : Option Addr) (n143 c144 : Nat), ld1 h11 b140 (o141 + 5) = some (.slice p142 n143 c144) ∧
    (((((n143 : Nat) : Int) : Int) ≤ 64 → Q (.bool true) h11) ∧
    (¬ (((n143 : Nat) : Int) : Int) ≤ 64 → Q (.bool false) h11))))) ∨ (ld1 h11 h4.next 4 = some (.bool false) ∧
    (derefP pa0 fun b145 o146 => (∃ (p147 : Option Addr) (n148 c149 : Nat), ld1 h11 b145 (o146 + 5) = some (.slice p147 n148 c149) ∧
    (((((n148 : Nat) : Int) : Int) = 0 → derefP pa0 fun b150 o151 => (∃ (p152 : Option Addr) (n153 c154 : Nat), ld1 h11 b150 (o151 + 5) = some (.slice p152 n153 c154) ∧
    (((((n153 : Nat) : Int) : Int) ≤ 64 → Q (.bool true) h11) ∧
    (¬ (((n153 : Nat) : Int) : Int) ≤ 64 → Q (.bool false) h11)))) ∧
    (¬ (((n148 : Nat) : Int) : Int) = 0 → Q (.bool false) h11))))))) ∧
    (¬ (((n138 : Nat) : Int) : Int) ≤ 129 → Q (.bool false) h11))))) ∨ (ld1 h11 h4.next 3 = some (.bool false) ∧
    (derefP pa0 fun b155 o156 => (∃ (p157 : Option Addr) (n158 c159 : Nat), ld1 h11 b155 (o156 + 4) = some (.slice p157 n158 c159) ∧
    (((((n158 : Nat) : Int) : Int) = 0 → derefP pa0 fun b160 o161 => (∃ (p162 : Option Addr) (n163 c164 : Nat), ld1 h11 b160 (o161 + 4) = some (.slice p162 n163 c164) ∧
    (((((n163 : Nat) : Int) : Int) ≤ 129 → ((ld1 h11 h4.next 4 = some (.bool true) ∧
    (derefP pa0 fun b165 o166 => (∃ (p167 : Option Addr) (n168 c169 : Nat), ld1 h11 b165 (o166 + 5) = some (.slice p167 n168 c169) ∧
    (((((n168 : Nat) : Int) : Int) ≤ 64 → Q (.bool true) h11) ∧
    (¬ (((n168 : Nat) : Int) : Int) ≤ 64 → Q (.bool false) h11))))) ∨ (ld1 h11 h4.next 4 = some (.bool false) ∧
    (derefP pa0 fun b170 o171 => (∃ (p172 : Option Addr) (n173 c174 : Nat), ld1 h11 b170 (o171 + 5) = some (.slice p172 n173 c174) ∧
    (((((n173 : Nat) : Int) : Int) = 0 → derefP pa0 fun b175 o176 => (∃ (p177 : Option Addr) (n178 c179 : Nat), ld1 h11 b175 (o176 + 5) = some (.slice p177 n178 c179) ∧
    (((((n178 : Nat) : Int) : Int) ≤ 64 → Q (.bool true) h11) ∧
    (¬ (((n178 : Nat) : Int) : Int) ≤ 64 → Q (.bool false) h11)))) ∧
    (¬ (((n173 : Nat) : Int) : Int) = 0 → Q (.bool false) h11))))))) ∧
    (¬ (((n163 : Nat) : Int) : Int) ≤ 129 → Q (.bool false) h11)))) ∧
    (¬ (((n158 : Nat) : Int) : Int) = 0 → Q (.bool false) h11))))))) ∧
    (¬ (i134 : Int) ≤ 65534 → Q (.bool false) h11)))) ∧
    (¬ ((-1) : Int) ≤ i131 → Q (.bool false) h11))))) ∨ (ld1 h11 h4.next 2 = some (.bool false) ∧
    (derefP pa0 fun b180 o181 => (∃ i182 : Int, ld1 h11 b180 (o181 + 3) = some (.int .i64 i182) ∧
    (((i182 : Int) = 0 → derefP pa0 fun b183 o184 => (∃ i185 : Int, ld1 h11 b183 (o184 + 3) = some (.int .i64 i185) ∧
    ((((-1) : Int) ≤ i185 → derefP pa0 fun b186 o187 => (∃ i188 : Int, ld1 h11 b186 (o187 + 3) = some (.int .i64 i188) ∧
    (((i188 : Int) ≤ 65534 → ((ld1 h11 h4.next 3 = some (.bool true) ∧
    (derefP pa0 fun b189 o190 => (∃ (p191 : Option Addr) (n192 c193 : Nat), ld1 h11 b189 (o190 + 4) = some (.slice p191 n192 c193) ∧
    (((((n192 : Nat) : Int) : Int) ≤ 129 → ((ld1 h11 h4.next 4 = some (.bool true) ∧
    (derefP pa0 fun b194 o195 => (∃ (p196 : Option Addr) (n197 c198 : Nat), ld1 h11 b194 (o195 + 5) = some (.slice p196 n197 c198) ∧
    (((((n197 : Nat) : Int) : Int) ≤ 64 → Q (.bool true) h11) ∧
    (¬ (((n197 : Nat) : Int) : Int) ≤ 64 → Q (.bool false) h11))))) ∨ (ld1 h11 h4.next 4 = some (.bool false) ∧
    (derefP pa0 fun b199 o200 => (∃ (p201 : Option Addr) (n202 c203 : Nat), ld1 h11 b199 (o200 + 5) = some (.slice p201 n202 c203) ∧
    (((((n202 : Nat) : Int) : Int) = 0 → derefP pa0 fun b204 o205 => (∃ (p206 : Option Addr) (n207 c208 : Nat), ld1 h11 b204 (o205 + 5) = some (.slice p206 n207 c208) ∧
    (((((n207 : Nat) : Int) : Int) ≤ 64 → Q (.bool true) h11) ∧
    (¬ (((n207 : Nat) : Int) : Int) ≤ 64 → Q (.bool false) h11)))) ∧
    (¬ (((n202 : Nat) : Int) : Int) = 0 → Q (.bool false) h11))))))) ∧
    (¬ (((n192 : Nat) : Int) : Int) ≤ 129 → Q (.bool false) h11))))) ∨ (ld1 h11 h4.next 3 = some (.bool false) ∧
    (derefP pa0 fun b209 o210 => (∃ (p211 : Option Addr) (n212 c213 : Nat), ld1 h11 b209 (o210 + 4) = some (.slice p211 n212 c213) ∧
    (((((n212 : Nat) : Int) : Int) = 0 → derefP pa0 fun b214 o215 => (∃ (p216 : Option Addr) (n217 c218 : Nat), ld1 h11 b214 (o215 + 4) = some (.slice p216 n217 c218) ∧
    (((((n217 : Nat) : Int) : Int) ≤ 129 → ((ld1 h11 h4.next 4 = some (.bool true) ∧
    (derefP pa0 fun b219 o220 => (∃ (p221 : Option Addr) (n222 c223 : Nat), ld1 h11 b219 (o220 + 5) = some (.slice p221 n222 c223) ∧
    (((((n222 : Nat) : Int) : Int) ≤ 64 → Q (.bool true) h11) ∧
    (¬ (((n222 : Nat) : Int) : Int) ≤ 64 → Q (.bool false) h11))))) ∨ (ld1 h11 h4.next 4 = some (.bool false) ∧
    (derefP pa0 fun b224 o225 => (∃ (p226 : Option Addr) (n227 c228 : Nat), ld1 h11 b224 (o225 + 5) = some (.slice p226 n227 c228) ∧
    (((((n227 : Nat) : Int) : Int) = 0 → derefP pa0 fun b229 o230 => (∃ (p231 : Option Addr) (n232 c233 : Nat), ld1 h11 b229 (o230 + 5) = some (.slice p231 n232 c233) ∧
    (((((n232 : Nat) : Int) : Int) ≤ 64 → Q (.bool true) h11) ∧
    (¬ (((n232 : Nat) : Int) : Int) ≤ 64 → Q (.bool false) h11)))) ∧
    (¬ (((n227 : Nat) : Int) : Int) = 0 → Q (.bool false) h11))))))) ∧
    (¬ (((n217 : Nat) : Int) : Int) ≤ 129 → Q (.bool false) h11)))) ∧
    (¬ (((n212 : Nat) : Int) : Int) = 0 → Q (.bool false) h11))))))) ∧
    (¬ (i188 : Int) ≤ 65534 → Q (.bool false) h11)))) ∧
    (¬ ((-1) : Int) ≤ i185 → Q (.bool false) h11)))) ∧
    (¬ (i182 : Int) = 0 → Q (.bool false) h11))))))) ∧
    (¬ (((ByteArray.size s128 : Nat) : Int) : Int) ≤ 60 → Q (.bool false) h11)))) ∧
    (¬ s125 = (ByteArray.mk #[]) → Q (.bool false) h11))))))) ∧
    (¬ (((ByteArray.size s14 : Nat) : Int) : Int) ≤ 60 → Q (.bool false) h11))))) ∨ (ld1 h11 h4.next 0 = some (.bool false) ∧
    (derefP pa0 fun b234 o235 => (∃ s236 : ByteArray, ld1 h11 b234 (o235 + 1) = some (.string s236) ∧
    ((s236 = (ByteArray.mk #[]) → derefP pa0 fun b237 o238 => (∃ s239 : ByteArray, ld1 h11 b237 (o238 + 1) = some (.string s239) ∧
    (((((ByteArray.size s239 : Nat) : Int) : Int) ≤ 60 → ((ld1 h11 h4.next 1 = some (.bool true) ∧
    (derefP pa0 fun b240 o241 => (∃ s242 : ByteArray, ld1 h11 b240 (o241 + 2) = some (.string s242) ∧
    (((((ByteArray.size s242 : Nat) : Int) : Int) ≤ 60 → ((ld1 h11 h4.next 2 = some (.bool true) ∧
    (derefP pa0 fun b243 o244 => (∃ i245 : Int, ld1 h11 b243 (o244 + 3) = some (.int .i64 i245) ∧
    ((((-1) : Int) ≤ i245 → derefP pa0 fun b246 o247 => (∃ i248 : Int, ld1 h11 b246 (o247 + 3) = some (.int .i64 i248) ∧
    (((i248 : Int) ≤ 65534 → ((ld1 h11 h4.next 3 = some (.bool true) ∧
    (derefP pa0 fun b249 o250 => (∃ (p251 : Option Addr) (n252 c253 : Nat), ld1 h11 b249 (o250 + 4) = some (.slice p251 n252 c253) ∧
    (((((n252 : Nat) : Int) : Int) ≤ 129 → ((ld1 h11 h4.next 4 = some (.bool true) ∧
    (derefP pa0 fun b254 o255 => (∃ (p256 : Option Addr) (n257 c258 : Nat), ld1 h11 b254 (o255 + 5) = some (.slice p256 n257 c258) ∧
    (((((n257 : Nat) : Int) : Int) ≤ 64 → Q (.bool true) h11) ∧
    (¬ (((n257 : Nat) : Int) : Int) ≤ 64 → Q (.bool false) h11))))) ∨ (ld1 h11 h4.next 4 = some (.bool false) ∧
    (derefP pa0 fun b259 o260 => (∃ (p261 : Option Addr) (n262 c263 : Nat), ld1 h11 b259 (o260 + 5) = some (.slice p261 n262 c263) ∧
    (((((n262 : Nat) : Int) : Int) = 0 → derefP pa0 fun b264 o265 => (∃ (p266 : Option Addr) (n267 c268 : Nat), ld1 h11 b264 (o265 + 5) = some (.slice p266 n267 c268) ∧
    (((((n267 : Nat) : Int) : Int) ≤ 64 → Q (.bool true) h11) ∧
    (¬ (((n267 : Nat) : Int) : Int) ≤ 64 → Q (.bool false) h11)))) ∧
    (¬ (((n262 : Nat) : Int) : Int) = 0 → Q (.bool false) h11))))))) ∧
    (¬ (((n252 : Nat) : Int) : Int) ≤ 129 → Q (.bool false) h11))))) ∨ (ld1 h11 h4.next 3 = some (.bool false) ∧
    (derefP pa0 fun b269 o270 => (∃ (p271 : Option Addr) (n272 c273 : Nat), ld1 h11 b269 (o270 + 4) = some (.slice p271 n272 c273) ∧
    (((((n272 : Nat) : Int) : Int) = 0 → derefP pa0 fun b274 o275 => (∃ (p276 : Option Addr) (n277 c278 : Nat), ld1 h11 b274 (o275 + 4) = some (.slice p276 n277 c278) ∧
    (((((n277 : Nat) : Int) : Int) ≤ 129 → ((ld1 h11 h4.next 4 = some (.bool true) ∧
    (derefP pa0 fun b279 o280 => (∃ (p281 : Option Addr) (n282 c283 : Nat), ld1 h11 b279 (o280 + 5) = some (.slice p281 n282 c283) ∧
    (((((n282 : Nat) : Int) : Int) ≤ 64 → Q (.bool true) h11) ∧
    (¬ (((n282 : Nat) : Int) : Int) ≤ 64 → Q (.bool false) h11))))) ∨ (ld1 h11 h4.next 4 = some (.bool false) ∧
    (derefP pa0 fun b284 o285 => (∃ (p286 : Option Addr) (n287 c288 : Nat), ld1 h11 b284 (o285 + 5) = some (.slice p286 n287 c288) ∧
    (((((n287 : Nat) : Int) : Int) = 0 → derefP pa0 fun b289 o290 => (∃ (p291 : Option Addr) (n292 c293 : Nat), ld1 h11 b289 (o290 + 5) = some (.slice p291 n292 c293) ∧
    (((((n292 : Nat) : Int) : Int) ≤ 64 → Q (.bool true) h11) ∧
    (¬ (((n292 : Nat) : Int) : Int) ≤ 64 → Q (.bool false) h11)))) ∧
    (¬ (((n287 : Nat) : Int) : Int) = 0 → Q (.bool false) h11))))))) ∧
    (¬ (((n277 : Nat) : Int) : Int) ≤ 129 → Q (.bool false) h11)))) ∧
    (¬ (((n272 : Nat) : Int) : Int) = 0 → Q (.bool false) h11))))))) ∧
    (¬ (i248 : Int) ≤ 65534 → Q (.bool false) h11)))) ∧
    (¬ ((-1) : Int) ≤ i245 → Q (.bool false) h11))))) ∨ (ld1 h11 h4.next 2 = some (.bool false) ∧
    (derefP pa0 fun b294 o295 => (∃ i296 : Int, ld1 h11 b294 (o295 + 3) = some (.int .i64 i296) ∧
    (((i296 : Int) = 0 → derefP pa0 fun b297 o298 => (∃ i299 : Int, ld1 h11 b297 (o298 + 3) = some (.int .i64 i299) ∧
    ((((-1) : Int) ≤ i299 → derefP pa0 fun b300 o301 => (∃ i302 : Int, ld1 h11 b300 (o301 + 3) = some (.int .i64 i302) ∧
    (((i302 : Int) ≤ 65534 → ((ld1 h11 h4.next 3 = some (.bool true) ∧
    (derefP pa0 fun b303 o304 => (∃ (p305 : Option Addr) (n306 c307 : Nat), ld1 h11 b303 (o304 + 4) = some (.slice p305 n306 c307) ∧
    (((((n306 : Nat) : Int) : Int) ≤ 129 → ((ld1 h11 h4.next 4 = some (.bool true) ∧
    (derefP pa0 fun b308 o309 => (∃ (p310 : Option Addr) (n311 c312 : Nat), ld1 h11 b308 (o309 + 5) = some (.slice p310 n311 c312) ∧
    (((((n311 : Nat) : Int) : Int) ≤ 64 → Q (.bool true) h11) ∧
    (¬ (((n311 : Nat) : Int) : Int) ≤ 64 → Q (.bool false) h11))))) ∨ (ld1 h11 h4.next 4 = some (.bool false) ∧
    (derefP pa0 fun b313 o314 => (∃ (p315 : Option Addr) (n316 c317 : Nat), ld1 h11 b313 (o314 + 5) = some (.slice p315 n316 c317) ∧
    (((((n316 : Nat) : Int) : Int) = 0 → derefP pa0 fun b318 o319 => (∃ (p320 : Option Addr) (n321 c322 : Nat), ld1 h11 b318 (o319 + 5) = some (.slice p320 n321 c322) ∧
    (((((n321 : Nat) : Int) : Int) ≤ 64 → Q (.bool true) h11) ∧
    (¬ (((n321 : Nat) : Int) : Int) ≤ 64 → Q (.bool false) h11)))) ∧
    (¬ (((n316 : Nat) : Int) : Int) = 0 → Q (.bool false) h11))))))) ∧
    (¬ (((n306 : Nat) : Int) : Int) ≤ 129 → Q (.bool false) h11))))) ∨ (ld1 h11 h4.next 3 = some (.bool false) ∧
    (derefP pa0 fun b323 o324 => (∃ (p325 : Option Addr) (n326 c327 : Nat), ld1 h11 b323 (o324 + 4) = some (.slice p325 n326 c327) ∧
    (((((n326 : Nat) : Int) : Int) = 0 → derefP pa0 fun b328 o329 => (∃ (p330 : Option Addr) (n331 c332 : Nat), ld1 h11 b328 (o329 + 4) = some (.slice p330 n331 c332) ∧
    (((((n331 : Nat) : Int) : Int) ≤ 129 → ((ld1 h11 h4.next 4 = some (.bool true) ∧
    (derefP pa0 fun b333 o334 => (∃ (p335 : Option Addr) (n336 c337 : Nat), ld1 h11 b333 (o334 + 5) = some (.slice p335 n336 c337) ∧
    (((((n336 : Nat) : Int) : Int) ≤ 64 → Q (.bool true) h11) ∧
    (¬ (((n336 : Nat) : Int) : Int) ≤ 64 → Q (.bool false) h11))))) ∨ (ld1 h11 h4.next 4 = some (.bool false) ∧
    (derefP pa0 fun b338 o339 => (∃ (p340 : Option Addr) (n341 c342 : Nat), ld1 h11 b338 (o339 + 5) = some (.slice p340 n341 c342) ∧
    (((((n341 : Nat) : Int) : Int) = 0 → derefP pa0 fun b343 o344 => (∃ (p345 : Option Addr) (n346 c347 : Nat), ld1 h11 b343 (o344 + 5) = some (.slice p345 n346 c347) ∧
    (((((n346 : Nat) : Int) : Int) ≤ 64 → Q (.bool true) h11) ∧
    (¬ (((n346 : Nat) : Int) : Int) ≤ 64 → Q (.bool false) h11)))) ∧
    (¬ (((n341 : Nat) : Int) : Int) = 0 → Q (.bool false) h11))))))) ∧
    (¬ (((n331 : Nat) : Int) : Int) ≤ 129 → Q (.bool false) h11)))) ∧
    (¬ (((n326 : Nat) : Int) : Int) = 0 → Q (.bool false) h11))))))) ∧
    (¬ (i302 : Int) ≤ 65534 → Q (.bool false) h11)))) ∧
    (¬ ((-1) : Int) ≤ i299 → Q (.bool false) h11)))) ∧
    (¬ (i296 : Int) = 0 → Q (.bool false) h11))))))) ∧
    (¬ (((ByteArray.size s242 : Nat) : Int) : Int) ≤ 60 → Q (.bool false) h11))))) ∨ (ld1 h11 h4.next 1 = some (.bool false) ∧
    (derefP pa0 fun b348 o349 => (∃ s350 : ByteArray, ld1 h11 b348 (o349 + 2) = some (.string s350) ∧
    ((s350 = (ByteArray.mk #[]) → derefP pa0 fun b351 o352 => (∃ s353 : ByteArray, ld1 h11 b351 (o352 + 2) = some (.string s353) ∧
    (((((ByteArray.size s353 : Nat) : Int) : Int) ≤ 60 → ((ld1 h11 h4.next 2 = some (.bool true) ∧
    (derefP pa0 fun b354 o355 => (∃ i356 : Int, ld1 h11 b354 (o355 + 3) = some (.int .i64 i356) ∧
    ((((-1) : Int) ≤ i356 → derefP pa0 fun b357 o358 => (∃ i359 : Int, ld1 h11 b357 (o358 + 3) = some (.int .i64 i359) ∧
    (((i359 : Int) ≤ 65534 → ((ld1 h11 h4.next 3 = some (.bool true) ∧
    (derefP pa0 fun b360 o361 => (∃ (p362 : Option Addr) (n363 c364 : Nat), ld1 h11 b360 (o361 + 4) = some (.slice p362 n363 c364) ∧
    (((((n363 : Nat) : Int) : Int) ≤ 129 → ((ld1 h11 h4.next 4 = some (.bool true) ∧
    (derefP pa0 fun b365 o366 => (∃ (p367 : Option Addr) (n368 c369 : Nat), ld1 h11 b365 (o366 + 5) = some (.slice p367 n368 c369) ∧
    (((((n368 : Nat) : Int) : Int) ≤ 64 → Q (.bool true) h11) ∧
    (¬ (((n368 : Nat) : Int) : Int) ≤ 64 → Q (.bool false) h11))))) ∨ (ld1 h11 h4.next 4 = some (.bool false) ∧
    (derefP pa0 fun b370 o371 => (∃ (p372 : Option Addr) (n373 c374 : Nat), ld1 h11 b370 (o371 + 5) = some (.slice p372 n373 c374) ∧
    (((((n373 : Nat) : Int) : Int) = 0 → derefP pa0 fun b375 o376 => (∃ (p377 : Option Addr) (n378 c379 : Nat), ld1 h11 b375 (o376 + 5) = some (.slice p377 n378 c379) ∧
    (((((n378 : Nat) : Int) : Int) ≤ 64 → Q (.bool true) h11) ∧
    (¬ (((n378 : Nat) : Int) : Int) ≤ 64 → Q (.bool false) h11)))) ∧
    (¬ (((n373 : Nat) : Int) : Int) = 0 → Q (.bool false) h11))))))) ∧
    (¬ (((n363 : Nat) : Int) : Int) ≤ 129 → Q (.bool false) h11))))) ∨ (ld1 h11 h4.next 3 = some (.bool false) ∧
    (derefP pa0 fun b380 o381 => (∃ (p382 : Option Addr) (n383 c384 : Nat), ld1 h11 b380 (o381 + 4) = some (.slice p382 n383 c384) ∧
    (((((n383 : Nat) : Int) : Int) = 0 → derefP pa0 fun b385 o386 => (∃ (p387 : Option Addr) (n388 c389 : Nat), ld1 h11 b385 (o386 + 4) = some (.slice p387 n388 c389) ∧
    (((((n388 : Nat) : Int) : Int) ≤ 129 → ((ld1 h11 h4.next 4 = some (.bool true) ∧
    (derefP pa0 fun b390 o391 => (∃ (p392 : Option Addr) (n393 c394 : Nat), ld1 h11 b390 (o391 + 5) = some (.slice p392 n393 c394) ∧
    (((((n393 : Nat) : Int) : Int) ≤ 64 → Q (.bool true) h11) ∧
    (¬ (((n393 : Nat) : Int) : Int) ≤ 64 → Q (.bool false) h11))))) ∨ (ld1 h11 h4.next 4 = some (.bool false) ∧
    (derefP pa0 fun b395 o396 => (∃ (p397 : Option Addr) (n398 c399 : Nat), ld1 h11 b395 (o396 + 5) = some (.slice p397 n398 c399) ∧
    (((((n398 : Nat) : Int) : Int) = 0 → derefP pa0 fun b400 o401 => (∃ (p402 : Option Addr) (n403 c404 : Nat), ld1 h11 b400 (o401 + 5) = some (.slice p402 n403 c404) ∧
    (((((n403 : Nat) : Int) : Int) ≤ 64 → Q (.bool true) h11) ∧
    (¬ (((n403 : Nat) : Int) : Int) ≤ 64 → Q (.bool false) h11)))) ∧
    (¬ (((n398 : Nat) : Int) : Int) = 0 → Q (.bool false) h11))))))) ∧
    (¬ (((n388 : Nat) : Int) : Int) ≤ 129 → Q (.bool false) h11)))) ∧
    (¬ (((n383 : Nat) : Int) : Int) = 0 → Q (.bool false) h11))))))) ∧
    (¬ (i359 : Int) ≤ 65534 → Q (.bool false) h11)))) ∧
    (¬ ((-1) : Int) ≤ i356 → Q (.bool false) h11))))) ∨ (ld1 h11 h4.next 2 = some (.bool false) ∧
    (derefP pa0 fun b405 o406 => (∃ i407 : Int, ld1 h11 b405 (o406 + 3) = some (.int .i64 i407) ∧
    (((i407 : Int) = 0 → derefP pa0 fun b408 o409 => (∃ i410 : Int, ld1 h11 b408 (o409 + 3) = some (.int .i64 i410) ∧
    ((((-1) : Int) ≤ i410 → derefP pa0 fun b411 o412 => (∃ i413 : Int, ld1 h11 b411 (o412 + 3) = some (.int .i64 i413) ∧
    (((i413 : Int) ≤ 65534 → ((ld1 h11 h4.next 3 = some (.bool true) ∧
    (derefP pa0 fun b414 o415 => (∃ (p416 : Option Addr) (n417 c418 : Nat), ld1 h11 b414 (o415 + 4) = some (.slice p416 n417 c418) ∧
    (((((n417 : Nat) : Int) : Int) ≤ 129 → ((ld1 h11 h4.next 4 = some (.bool true) ∧
    (derefP pa0 fun b419 o420 => (∃ (p421 : Option Addr) (n422 c423 : Nat), ld1 h11 b419 (o420 + 5) = some (.slice p421 n422 c423) ∧
    (((((n422 : Nat) : Int) : Int) ≤ 64 → Q (.bool true) h11) ∧
    (¬ (((n422 : Nat) : Int) : Int) ≤ 64 → Q (.bool false) h11))))) ∨ (ld1 h11 h4.next 4 = some (.bool false) ∧
    (derefP pa0 fun b424 o425 => (∃ (p426 : Option Addr) (n427 c428 : Nat), ld1 h11 b424 (o425 + 5) = some (.slice p426 n427 c428) ∧
    (((((n427 : Nat) : Int) : Int) = 0 → derefP pa0 fun b429 o430 => (∃ (p431 : Option Addr) (n432 c433 : Nat), ld1 h11 b429 (o430 + 5) = some (.slice p431 n432 c433) ∧
    (((((n432 : Nat) : Int) : Int) ≤ 64 → Q (.bool true) h11) ∧
    (¬ (((n432 : Nat) : Int) : Int) ≤ 64 → Q (.bool false) h11)))) ∧
    (¬ (((n427 : Nat) : Int) : Int) = 0 → Q (.bool false) h11))))))) ∧
    (¬ (((n417 : Nat) : Int) : Int) ≤ 129 → Q (.bool false) h11))))) ∨ (ld1 h11 h4.next 3 = some (.bool false) ∧
    (derefP pa0 fun b434 o435 => (∃ (p436 : Option Addr) (n437 c438 : Nat), ld1 h11 b434 (o435 + 4) = some (.slice p436 n437 c438) ∧
    (((((n437 : Nat) : Int) : Int) = 0 → derefP pa0 fun b439 o440 => (∃ (p441 : Option Addr) (n442 c443 : Nat), ld1 h11 b439 (o440 + 4) = some (.slice p441 n442 c443) ∧
    (((((n442 : Nat) : Int) : Int) ≤ 129 → ((ld1 h11 h4.next 4 = some (.bool true) ∧
    (derefP pa0 fun b444 o445 => (∃ (p446 : Option Addr) (n447 c448 : Nat), ld1 h11 b444 (o445 + 5) = some (.slice p446 n447 c448) ∧
    (((((n447 : Nat) : Int) : Int) ≤ 64 → Q (.bool true) h11) ∧
    (¬ (((n447 : Nat) : Int) : Int) ≤ 64 → Q (.bool false) h11))))) ∨ (ld1 h11 h4.next 4 = some (.bool false) ∧
    (derefP pa0 fun b449 o450 => (∃ (p451 : Option Addr) (n452 c453 : Nat), ld1 h11 b449 (o450 + 5) = some (.slice p451 n452 c453) ∧
    (((((n452 : Nat) : Int) : Int) = 0 → derefP pa0 fun b454 o455 => (∃ (p456 : Option Addr) (n457 c458 : Nat), ld1 h11 b454 (o455 + 5) = some (.slice p456 n457 c458) ∧
    (((((n457 : Nat) : Int) : Int) ≤ 64 → Q (.bool true) h11) ∧
    (¬ (((n457 : Nat) : Int) : Int) ≤ 64 → Q (.bool false) h11)))) ∧
    (¬ (((n452 : Nat) : Int) : Int) = 0 → Q (.bool false) h11))))))) ∧
    (¬ (((n442 : Nat) : Int) : Int) ≤ 129 → Q (.bool false) h11)))) ∧
    (¬ (((n437 : Nat) : Int) : Int) = 0 → Q (.bool false) h11))))))) ∧
    (¬ (i413 : Int) ≤ 65534 → Q (.bool false) h11)))) ∧
    (¬ ((-1) : Int) ≤ i410 → Q (.bool false) h11)))) ∧
    (¬ (i407 : Int) = 0 → Q (.bool false) h11))))))) ∧
    (¬ (((ByteArray.size s353 : Nat) : Int) : Int) ≤ 60 → Q (.bool false) h11)))) ∧
    (¬ s350 = (ByteArray.mk #[]) → Q (.bool false) h11))))))) ∧
    (¬ (((ByteArray.size s239 : Nat) : Int) : Int) ≤ 60 → Q (.bool false) h11)))) ∧
    (¬ s236 = (ByteArray.mk #[]) → Q (.bool false) h11))))))))) ∨ (r3 = (.tuple #[(.agg #[(.bool b5), (.bool b6), (.bool b7), (.bool b8), (.bool b9)]), (.bool false)]) ∧
    (∀ h459 : AH, h459 = h4.alloc (.cells ([(.bool false), (.bool false), (.bool false), (.bool false), (.bool false)] : List Value) 79 false) →
    (List.length ([(.bool b5), (.bool b6), (.bool b7), (.bool b8), (.bool b9)] : List Value) = 5) ∧ ∃ h460 : AH, stN h459 h4.next 0 ([(.bool b5), (.bool b6), (.bool b7), (.bool b8), (.bool b9)] : List Value) = some h460 ∧
    (Q (.bool false) h460)))))))) :
    Wf Tryz.prog K 20 [(.pointer pa0)] h Q :=
  vcF_sound (hs := []) hk (Eq.mpr (by kernel_rfl) H)
theorem vc_script_partsOf {K : Xs} (hk : K 32 = none) (ia0 : Int) (h : AH) (Q : Value → AH → Prop) (H :
    ∀ h0 : AH, h0 = h.alloc (.cells ([(.bool false), (.bool false), (.bool false), (.bool false), (.bool false)] : List Value) 79 false) →
    ∀ h1 : AH, h1 = h0.alloc (.cells ([(.bool false), (.bool false), (.bool false), (.bool false), (.bool false)] : List Value) 79 false) →
    ((ia0 : Int) = 1 → ∃ h2 : AH, st1 h1 h0.next 3 (.bool true) = some h2 ∧
    (∃ h3 : AH, st1 h2 h0.next 0 (.bool true) = some h3 ∧
    (∃ h4 : AH, st1 h3 h0.next 2 (.bool true) = some h4 ∧
    (∃ b5 : Bool, ∃ b6 : Bool, ∃ b7 : Bool, ∃ b8 : Bool, ∃ b9 : Bool, ldN h4 h0.next 0 5 = some ([(.bool b5), (.bool b6), (.bool b7), (.bool b8), (.bool b9)] : List Value) ∧
    ((List.length ([(.bool b5), (.bool b6), (.bool b7), (.bool b8), (.bool b9)] : List Value) = 5) ∧ ∃ h10 : AH, stN h4 h.next 0 ([(.bool b5), (.bool b6), (.bool b7), (.bool b8), (.bool b9)] : List Value) = some h10 ∧
    (∃ b11 : Bool, ∃ b12 : Bool, ∃ b13 : Bool, ∃ b14 : Bool, ∃ b15 : Bool, ldN h10 h.next 0 5 = some ([(.bool b11), (.bool b12), (.bool b13), (.bool b14), (.bool b15)] : List Value) ∧
    (Q (.tuple #[(.agg #[(.bool b11), (.bool b12), (.bool b13), (.bool b14), (.bool b15)]), (.bool true)]) h10))))))) ∧
    (¬ (ia0 : Int) = 1 → ((ia0 : Int) = 0 → ∃ h16 : AH, st1 h1 h0.next 0 (.bool true) = some h16 ∧
    (∃ h17 : AH, st1 h16 h0.next 2 (.bool true) = some h17 ∧
    (∃ b18 : Bool, ∃ b19 : Bool, ∃ b20 : Bool, ∃ b21 : Bool, ∃ b22 : Bool, ldN h17 h0.next 0 5 = some ([(.bool b18), (.bool b19), (.bool b20), (.bool b21), (.bool b22)] : List Value) ∧
    ((List.length ([(.bool b18), (.bool b19), (.bool b20), (.bool b21), (.bool b22)] : List Value) = 5) ∧ ∃ h23 : AH, stN h17 h.next 0 ([(.bool b18), (.bool b19), (.bool b20), (.bool b21), (.bool b22)] : List Value) = some h23 ∧
    (∃ b24 : Bool, ∃ b25 : Bool, ∃ b26 : Bool, ∃ b27 : Bool, ∃ b28 : Bool, ldN h23 h.next 0 5 = some ([(.bool b24), (.bool b25), (.bool b26), (.bool b27), (.bool b28)] : List Value) ∧
    (Q (.tuple #[(.agg #[(.bool b24), (.bool b25), (.bool b26), (.bool b27), (.bool b28)]), (.bool true)]) h23)))))) ∧
    (¬ (ia0 : Int) = 0 → ((ia0 : Int) = 2 → ∃ h29 : AH, st1 h1 h0.next 0 (.bool true) = some h29 ∧
    (∃ h30 : AH, st1 h29 h0.next 2 (.bool true) = some h30 ∧
    (∃ b31 : Bool, ∃ b32 : Bool, ∃ b33 : Bool, ∃ b34 : Bool, ∃ b35 : Bool, ldN h30 h0.next 0 5 = some ([(.bool b31), (.bool b32), (.bool b33), (.bool b34), (.bool b35)] : List Value) ∧
    ((List.length ([(.bool b31), (.bool b32), (.bool b33), (.bool b34), (.bool b35)] : List Value) = 5) ∧ ∃ h36 : AH, stN h30 h.next 0 ([(.bool b31), (.bool b32), (.bool b33), (.bool b34), (.bool b35)] : List Value) = some h36 ∧
    (∃ b37 : Bool, ∃ b38 : Bool, ∃ b39 : Bool, ∃ b40 : Bool, ∃ b41 : Bool, ldN h36 h.next 0 5 = some ([(.bool b37), (.bool b38), (.bool b39), (.bool b40), (.bool b41)] : List Value) ∧
    (Q (.tuple #[(.agg #[(.bool b37), (.bool b38), (.bool b39), (.bool b40), (.bool b41)]), (.bool true)]) h36)))))) ∧
    (¬ (ia0 : Int) = 2 → ((ia0 : Int) = 3 → ∃ h42 : AH, st1 h1 h0.next 0 (.bool true) = some h42 ∧
    (∃ h43 : AH, st1 h42 h0.next 2 (.bool true) = some h43 ∧
    (∃ b44 : Bool, ∃ b45 : Bool, ∃ b46 : Bool, ∃ b47 : Bool, ∃ b48 : Bool, ldN h43 h0.next 0 5 = some ([(.bool b44), (.bool b45), (.bool b46), (.bool b47), (.bool b48)] : List Value) ∧
    ((List.length ([(.bool b44), (.bool b45), (.bool b46), (.bool b47), (.bool b48)] : List Value) = 5) ∧ ∃ h49 : AH, stN h43 h.next 0 ([(.bool b44), (.bool b45), (.bool b46), (.bool b47), (.bool b48)] : List Value) = some h49 ∧
    (∃ b50 : Bool, ∃ b51 : Bool, ∃ b52 : Bool, ∃ b53 : Bool, ∃ b54 : Bool, ldN h49 h.next 0 5 = some ([(.bool b50), (.bool b51), (.bool b52), (.bool b53), (.bool b54)] : List Value) ∧
    (Q (.tuple #[(.agg #[(.bool b50), (.bool b51), (.bool b52), (.bool b53), (.bool b54)]), (.bool true)]) h49)))))) ∧
    (¬ (ia0 : Int) = 3 → ((ia0 : Int) = 4 → ∃ h55 : AH, st1 h1 h0.next 0 (.bool true) = some h55 ∧
    (∃ b56 : Bool, ∃ b57 : Bool, ∃ b58 : Bool, ∃ b59 : Bool, ∃ b60 : Bool, ldN h55 h0.next 0 5 = some ([(.bool b56), (.bool b57), (.bool b58), (.bool b59), (.bool b60)] : List Value) ∧
    ((List.length ([(.bool b56), (.bool b57), (.bool b58), (.bool b59), (.bool b60)] : List Value) = 5) ∧ ∃ h61 : AH, stN h55 h.next 0 ([(.bool b56), (.bool b57), (.bool b58), (.bool b59), (.bool b60)] : List Value) = some h61 ∧
    (∃ b62 : Bool, ∃ b63 : Bool, ∃ b64 : Bool, ∃ b65 : Bool, ∃ b66 : Bool, ldN h61 h.next 0 5 = some ([(.bool b62), (.bool b63), (.bool b64), (.bool b65), (.bool b66)] : List Value) ∧
    (Q (.tuple #[(.agg #[(.bool b62), (.bool b63), (.bool b64), (.bool b65), (.bool b66)]), (.bool true)]) h61))))) ∧
    (¬ (ia0 : Int) = 4 → ((ia0 : Int) = 6 → ∃ h67 : AH, st1 h1 h0.next 0 (.bool true) = some h67 ∧
    (∃ b68 : Bool, ∃ b69 : Bool, ∃ b70 : Bool, ∃ b71 : Bool, ∃ b72 : Bool, ldN h67 h0.next 0 5 = some ([(.bool b68), (.bool b69), (.bool b70), (.bool b71), (.bool b72)] : List Value) ∧
    ((List.length ([(.bool b68), (.bool b69), (.bool b70), (.bool b71), (.bool b72)] : List Value) = 5) ∧ ∃ h73 : AH, stN h67 h.next 0 ([(.bool b68), (.bool b69), (.bool b70), (.bool b71), (.bool b72)] : List Value) = some h73 ∧
    (∃ b74 : Bool, ∃ b75 : Bool, ∃ b76 : Bool, ∃ b77 : Bool, ∃ b78 : Bool, ldN h73 h.next 0 5 = some ([(.bool b74), (.bool b75), (.bool b76), (.bool b77), (.bool b78)] : List Value) ∧
    (Q (.tuple #[(.agg #[(.bool b74), (.bool b75), (.bool b76), (.bool b77), (.bool b78)]), (.bool true)]) h73))))) ∧
    (¬ (ia0 : Int) = 6 → ((ia0 : Int) = 7 → ∃ h79 : AH, st1 h1 h0.next 0 (.bool true) = some h79 ∧
    (∃ b80 : Bool, ∃ b81 : Bool, ∃ b82 : Bool, ∃ b83 : Bool, ∃ b84 : Bool, ldN h79 h0.next 0 5 = some ([(.bool b80), (.bool b81), (.bool b82), (.bool b83), (.bool b84)] : List Value) ∧
    ((List.length ([(.bool b80), (.bool b81), (.bool b82), (.bool b83), (.bool b84)] : List Value) = 5) ∧ ∃ h85 : AH, stN h79 h.next 0 ([(.bool b80), (.bool b81), (.bool b82), (.bool b83), (.bool b84)] : List Value) = some h85 ∧
    (∃ b86 : Bool, ∃ b87 : Bool, ∃ b88 : Bool, ∃ b89 : Bool, ∃ b90 : Bool, ldN h85 h.next 0 5 = some ([(.bool b86), (.bool b87), (.bool b88), (.bool b89), (.bool b90)] : List Value) ∧
    (Q (.tuple #[(.agg #[(.bool b86), (.bool b87), (.bool b88), (.bool b89), (.bool b90)]), (.bool true)]) h85))))) ∧
    (¬ (ia0 : Int) = 7 → ((ia0 : Int) = 8 → ∃ h91 : AH, st1 h1 h0.next 0 (.bool true) = some h91 ∧
    (∃ b92 : Bool, ∃ b93 : Bool, ∃ b94 : Bool, ∃ b95 : Bool, ∃ b96 : Bool, ldN h91 h0.next 0 5 = some ([(.bool b92), (.bool b93), (.bool b94), (.bool b95), (.bool b96)] : List Value) ∧
    ((List.length ([(.bool b92), (.bool b93), (.bool b94), (.bool b95), (.bool b96)] : List Value) = 5) ∧ ∃ h97 : AH, stN h91 h.next 0 ([(.bool b92), (.bool b93), (.bool b94), (.bool b95), (.bool b96)] : List Value) = some h97 ∧
    (∃ b98 : Bool, ∃ b99 : Bool, ∃ b100 : Bool, ∃ b101 : Bool, ∃ b102 : Bool, ldN h97 h.next 0 5 = some ([(.bool b98), (.bool b99), (.bool b100), (.bool b101), (.bool b102)] : List Value) ∧
    (Q (.tuple #[(.agg #[(.bool b98), (.bool b99), (.bool b100), (.bool b101), (.bool b102)]), (.bool true)]) h97))))) ∧
    (¬ (ia0 : Int) = 8 → ((ia0 : Int) = 5 → ∃ h103 : AH, st1 h1 h0.next 0 (.bool true) = some h103 ∧
    (∃ h104 : AH, st1 h103 h0.next 1 (.bool true) = some h104 ∧
    (∃ b105 : Bool, ∃ b106 : Bool, ∃ b107 : Bool, ∃ b108 : Bool, ∃ b109 : Bool, ldN h104 h0.next 0 5 = some ([(.bool b105), (.bool b106), (.bool b107), (.bool b108), (.bool b109)] : List Value) ∧
    ((List.length ([(.bool b105), (.bool b106), (.bool b107), (.bool b108), (.bool b109)] : List Value) = 5) ∧ ∃ h110 : AH, stN h104 h.next 0 ([(.bool b105), (.bool b106), (.bool b107), (.bool b108), (.bool b109)] : List Value) = some h110 ∧
    (∃ b111 : Bool, ∃ b112 : Bool, ∃ b113 : Bool, ∃ b114 : Bool, ∃ b115 : Bool, ldN h110 h.next 0 5 = some ([(.bool b111), (.bool b112), (.bool b113), (.bool b114), (.bool b115)] : List Value) ∧
    (Q (.tuple #[(.agg #[(.bool b111), (.bool b112), (.bool b113), (.bool b114), (.bool b115)]), (.bool true)]) h110)))))) ∧
    (¬ (ia0 : Int) = 5 → ((ia0 : Int) = 9 → ∃ b116 : Bool, ∃ b117 : Bool, ∃ b118 : Bool, ∃ b119 : Bool, ∃ b120 : Bool, ldN h1 h0.next 0 5 = some ([(.bool b116), (.bool b117), (.bool b118), (.bool b119), (.bool b120)] : List Value) ∧
    ((List.length ([(.bool b116), (.bool b117), (.bool b118), (.bool b119), (.bool b120)] : List Value) = 5) ∧ ∃ h121 : AH, stN h1 h.next 0 ([(.bool b116), (.bool b117), (.bool b118), (.bool b119), (.bool b120)] : List Value) = some h121 ∧
    (∃ b122 : Bool, ∃ b123 : Bool, ∃ b124 : Bool, ∃ b125 : Bool, ∃ b126 : Bool, ldN h121 h.next 0 5 = some ([(.bool b122), (.bool b123), (.bool b124), (.bool b125), (.bool b126)] : List Value) ∧
    (Q (.tuple #[(.agg #[(.bool b122), (.bool b123), (.bool b124), (.bool b125), (.bool b126)]), (.bool true)]) h121)))) ∧
    (¬ (ia0 : Int) = 9 → ((ia0 : Int) = 10 → ∃ h127 : AH, st1 h1 h0.next 2 (.bool true) = some h127 ∧
    (∃ b128 : Bool, ∃ b129 : Bool, ∃ b130 : Bool, ∃ b131 : Bool, ∃ b132 : Bool, ldN h127 h0.next 0 5 = some ([(.bool b128), (.bool b129), (.bool b130), (.bool b131), (.bool b132)] : List Value) ∧
    ((List.length ([(.bool b128), (.bool b129), (.bool b130), (.bool b131), (.bool b132)] : List Value) = 5) ∧ ∃ h133 : AH, stN h127 h.next 0 ([(.bool b128), (.bool b129), (.bool b130), (.bool b131), (.bool b132)] : List Value) = some h133 ∧
    (∃ b134 : Bool, ∃ b135 : Bool, ∃ b136 : Bool, ∃ b137 : Bool, ∃ b138 : Bool, ldN h133 h.next 0 5 = some ([(.bool b134), (.bool b135), (.bool b136), (.bool b137), (.bool b138)] : List Value) ∧
    (Q (.tuple #[(.agg #[(.bool b134), (.bool b135), (.bool b136), (.bool b137), (.bool b138)]), (.bool true)]) h133))))) ∧
    (¬ (ia0 : Int) = 10 → ((ia0 : Int) = 11 → ∃ h139 : AH, st1 h1 h0.next 4 (.bool true) = some h139 ∧
    (∃ b140 : Bool, ∃ b141 : Bool, ∃ b142 : Bool, ∃ b143 : Bool, ∃ b144 : Bool, ldN h139 h0.next 0 5 = some ([(.bool b140), (.bool b141), (.bool b142), (.bool b143), (.bool b144)] : List Value) ∧
    ((List.length ([(.bool b140), (.bool b141), (.bool b142), (.bool b143), (.bool b144)] : List Value) = 5) ∧ ∃ h145 : AH, stN h139 h.next 0 ([(.bool b140), (.bool b141), (.bool b142), (.bool b143), (.bool b144)] : List Value) = some h145 ∧
    (∃ b146 : Bool, ∃ b147 : Bool, ∃ b148 : Bool, ∃ b149 : Bool, ∃ b150 : Bool, ldN h145 h.next 0 5 = some ([(.bool b146), (.bool b147), (.bool b148), (.bool b149), (.bool b150)] : List Value) ∧
    (Q (.tuple #[(.agg #[(.bool b146), (.bool b147), (.bool b148), (.bool b149), (.bool b150)]), (.bool true)]) h145))))) ∧
    (¬ (ia0 : Int) = 11 → ((ia0 : Int) = 12 → ∃ h151 : AH, st1 h1 h0.next 2 (.bool true) = some h151 ∧
    (∃ h152 : AH, st1 h151 h0.next 3 (.bool true) = some h152 ∧
    (∃ b153 : Bool, ∃ b154 : Bool, ∃ b155 : Bool, ∃ b156 : Bool, ∃ b157 : Bool, ldN h152 h0.next 0 5 = some ([(.bool b153), (.bool b154), (.bool b155), (.bool b156), (.bool b157)] : List Value) ∧
    ((List.length ([(.bool b153), (.bool b154), (.bool b155), (.bool b156), (.bool b157)] : List Value) = 5) ∧ ∃ h158 : AH, stN h152 h.next 0 ([(.bool b153), (.bool b154), (.bool b155), (.bool b156), (.bool b157)] : List Value) = some h158 ∧
    (∃ b159 : Bool, ∃ b160 : Bool, ∃ b161 : Bool, ∃ b162 : Bool, ∃ b163 : Bool, ldN h158 h.next 0 5 = some ([(.bool b159), (.bool b160), (.bool b161), (.bool b162), (.bool b163)] : List Value) ∧
    (Q (.tuple #[(.agg #[(.bool b159), (.bool b160), (.bool b161), (.bool b162), (.bool b163)]), (.bool true)]) h158)))))) ∧
    (¬ (ia0 : Int) = 12 → (List.length ([(.bool false), (.bool false), (.bool false), (.bool false), (.bool false)] : List Value) = 5) ∧ ∃ h164 : AH, stN h1 h.next 0 ([(.bool false), (.bool false), (.bool false), (.bool false), (.bool false)] : List Value) = some h164 ∧
    (∃ b165 : Bool, ∃ b166 : Bool, ∃ b167 : Bool, ∃ b168 : Bool, ∃ b169 : Bool, ldN h164 h.next 0 5 = some ([(.bool b165), (.bool b166), (.bool b167), (.bool b168), (.bool b169)] : List Value) ∧
    (Q (.tuple #[(.agg #[(.bool b165), (.bool b166), (.bool b167), (.bool b168), (.bool b169)]), (.bool false)]) h164)))))))))))))))) :
    Wf Tryz.prog K 32 [(.int .i64 ia0)] h Q :=
  vcF_sound (hs := []) hk (Eq.mpr (by kernel_rfl) H)
theorem vc_script_Read {K : Xs} (hk : K 13 = none) (pa0 : Option Addr) (na0 ca0 : Nat) (h : AH) (Q : Value → AH → Prop) (H :
    ∀ h0 : AH, h0 = h.alloc (.cells ([(.int .i64 0), (.slice none 0 0)] : List Value) 24 false) →
    Wf Tryz.prog K 23 [(.slice pa0 na0 ca0)] h0 fun r1 h2 =>
    (∃ (p3 : Option Addr) (n4 c5 : Nat), ∃ i6 : Int, r1 = (.tuple #[(.slice p3 n4 c5), (.int .i64 i6)]) ∧
    (((i6 : Int) = 0 → ((((n4 : Nat) : Int) : Int) < 1 → (List.length ([(.int .i64 0), (.slice none 0 0)] : List Value) = 2) ∧ ∃ h7 : AH, stN h2 h.next 0 ([(.int .i64 0), (.slice none 0 0)] : List Value) = some h7 ∧
    (∃ i8 : Int, ∃ (p9 : Option Addr) (n10 c11 : Nat), ldN h7 h.next 0 2 = some ([(.int .i64 i8), (.slice p9 n10 c11)] : List Value) ∧
    (Q (.tuple #[(.agg #[(.int .i64 i8), (.slice p9 n10 c11)]), (.int .i64 231)]) h7))) ∧
    (¬ (((n4 : Nat) : Int) : Int) < 1 → ((201 : Int) < ((n4 : Nat) : Int) → (List.length ([(.int .i64 0), (.slice none 0 0)] : List Value) = 2) ∧ ∃ h12 : AH, stN h2 h.next 0 ([(.int .i64 0), (.slice none 0 0)] : List Value) = some h12 ∧
    (∃ i13 : Int, ∃ (p14 : Option Addr) (n15 c16 : Nat), ldN h12 h.next 0 2 = some ([(.int .i64 i13), (.slice p14 n15 c16)] : List Value) ∧
    (Q (.tuple #[(.agg #[(.int .i64 i13), (.slice p14 n15 c16)]), (.int .i64 231)]) h12))) ∧
    (¬ (201 : Int) < ((n4 : Nat) : Int) → ∀ h17 : AH, h17 = h2.alloc (.cells ([(.int .i64 2)] : List Value) 3 false) →
    derefP p3 fun b18 o19 => (((0 : Int) ≤ 0) ∧ ((0 : Int) < ((n4 : Nat) : Int)) ∧
    (∃ (p20 : Option Addr) (n21 c22 : Nat), ld1 h17 b18 o19 = some (.slice p20 n21 c22) ∧
    (Wf Tryz.prog K 24 [(.slice (some ⟨h2.next, 0, none⟩) 1 1), (.slice p20 n21 c22)] h17 fun r23 h24 =>
    (∃ (p25 : Option Addr) (n26 c27 : Nat), ∃ i28 : Int, r23 = (.tuple #[(.slice p25 n26 c27), (.int .i64 i28)]) ∧
    (((i28 : Int) = 0 → derefP p25 fun b29 o30 => (((0 : Int) ≤ 0) ∧ ((0 : Int) < ((n26 : Nat) : Int)) ∧
    (∃ i31 : Int, ld1 h24 b29 o30 = some (.int .u64 i31) ∧
    (∀ i32 : Int, i32 = IntKind.wrap .i64 i31 → ∀ h33 : AH, h33 = h24.alloc (.cells ([(.int .i64 0), (.slice none 0 0)] : List Value) 24 false) →
    (List.length ([(.int .i64 i32), (.slice none 0 0)] : List Value) = 2) ∧ ∃ h34 : AH, stN h33 h24.next 0 ([(.int .i64 i32), (.slice none 0 0)] : List Value) = some h34 ∧
    (∃ (p35 : Option Addr) (n36 c37 : Nat), aSlice Tryz.prog h34 47 (.slice p3 n4 c5) (some (.int .i64 1)) none none = some (.slice p35 n36 c37) ∧
    (∃ I38 : Int → Nat → AH → Prop, (∃ n, I38 0 n h34) ∧
    ∀ (k39 : Nat) (h40 : AH) (i42 : Int), I38 i42 k39 h40 →
    ((i42 : Int) < ((n36 : Nat) : Int) → derefP p35 fun b43 o44 => (((0 : Int) ≤ i42) ∧ ((i42 : Int) < ((n36 : Nat) : Int)) ∧
    (∃ (p45 : Option Addr) (n46 c47 : Nat), ld1 h40 b43 (o44 + Int.toNat i42 * 1) = some (.slice p45 n46 c47) ∧
    (Wf Tryz.prog K 25 [(.slice p45 n46 c47)] h40 fun r48 h49 =>
    (∃ i50 : Int, ∃ s51 : ByteArray, ∃ s52 : ByteArray, ∃ i53 : Int, ∃ (p54 : Option Addr) (n55 c56 : Nat), ∃ (p57 : Option Addr) (n58 c59 : Nat), ∃ i60 : Int, r48 = (.tuple #[(.agg #[(.int .i64 i50), (.string s51), (.string s52), (.int .i64 i53), (.slice p54 n55 c56), (.slice p57 n58 c59)]), (.int .i64 i60)]) ∧
    (∀ h61 : AH, h61 = h49.alloc (.cells ([(.int .i64 0), (.string (ByteArray.mk #[])), (.string (ByteArray.mk #[])), (.int .i64 0), (.slice none 0 0), (.slice none 0 0)] : List Value) 43 false) →
    (List.length ([(.int .i64 i50), (.string s51), (.string s52), (.int .i64 i53), (.slice p54 n55 c56), (.slice p57 n58 c59)] : List Value) = 6) ∧ ∃ h62 : AH, stN h61 h49.next 0 ([(.int .i64 i50), (.string s51), (.string s52), (.int .i64 i53), (.slice p54 n55 c56), (.slice p57 n58 c59)] : List Value) = some h62 ∧
    (((i60 : Int) = 0 → ∃ (p63 : Option Addr) (n64 c65 : Nat), ld1 h62 h24.next 1 = some (.slice p63 n64 c65) ∧
    (∃ i66 : Int, ∃ s67 : ByteArray, ∃ s68 : ByteArray, ∃ i69 : Int, ∃ (p70 : Option Addr) (n71 c72 : Nat), ∃ (p73 : Option Addr) (n74 c75 : Nat), ldN h62 h49.next 0 6 = some ([(.int .i64 i66), (.string s67), (.string s68), (.int .i64 i69), (.slice p70 n71 c72), (.slice p73 n74 c75)] : List Value) ∧
    (∀ h76 : AH, h76 = h62.alloc (.cells ([(.int .i64 i66), (.string s67), (.string s68), (.int .i64 i69), (.slice p70 n71 c72), (.slice p73 n74 c75)] : List Value) 43 false) →
    ∃ (p77 : Option Addr) (n78 c79 : Nat) (h80 : AH), aBuiltin Tryz.prog h76 .append #[22, 22] [(.slice p63 n64 c65), (.slice (some ⟨h62.next, 0, none⟩) 1 1)] = some (.slice p77 n78 c79, h80) ∧
    (∃ h81 : AH, st1 h80 h24.next 1 (.slice p77 n78 c79) = some h81 ∧
    (∀ i82 : Int, i82 = IntKind.wrap .i64 (i42 + 1) → ∃ j41, j41 < k39 ∧ I38 i82 j41 h81))))) ∧
    (¬ (i60 : Int) = 0 → (List.length ([(.int .i64 0), (.slice none 0 0)] : List Value) = 2) ∧ ∃ h83 : AH, stN h62 h.next 0 ([(.int .i64 0), (.slice none 0 0)] : List Value) = some h83 ∧
    (∃ i84 : Int, ∃ (p85 : Option Addr) (n86 c87 : Nat), ldN h83 h.next 0 2 = some ([(.int .i64 i84), (.slice p85 n86 c87)] : List Value) ∧
    (Q (.tuple #[(.agg #[(.int .i64 i84), (.slice p85 n86 c87)]), (.int .i64 231)]) h83)))))))))) ∧
    (¬ (i42 : Int) < ((n36 : Nat) : Int) → ∃ i88 : Int, ∃ (p89 : Option Addr) (n90 c91 : Nat), ldN h40 h24.next 0 2 = some ([(.int .i64 i88), (.slice p89 n90 c91)] : List Value) ∧
    (Wf Tryz.prog K 7 [(.agg #[(.int .i64 i88), (.slice p89 n90 c91)])] h40 fun r92 h93 =>
    (∃ (p94 : Option Addr) (n95 c96 : Nat), ∃ i97 : Int, r92 = (.tuple #[(.slice p94 n95 c96), (.int .i64 i97)]) ∧
    (((i97 : Int) = 0 → Wf Tryz.prog K 26 [(.slice p94 n95 c96), (.slice pa0 na0 ca0)] h93 fun r98 h99 =>
    (((r98 = (.bool true) ∧
    (∃ i100 : Int, ∃ (p101 : Option Addr) (n102 c103 : Nat), ldN h99 h24.next 0 2 = some ([(.int .i64 i100), (.slice p101 n102 c103)] : List Value) ∧
    ((List.length ([(.int .i64 i100), (.slice p101 n102 c103)] : List Value) = 2) ∧ ∃ h104 : AH, stN h99 h.next 0 ([(.int .i64 i100), (.slice p101 n102 c103)] : List Value) = some h104 ∧
    (∃ i105 : Int, ∃ (p106 : Option Addr) (n107 c108 : Nat), ldN h104 h.next 0 2 = some ([(.int .i64 i105), (.slice p106 n107 c108)] : List Value) ∧
    (Q (.tuple #[(.agg #[(.int .i64 i105), (.slice p106 n107 c108)]), (.int .i64 0)]) h104))))) ∨ (r98 = (.bool false) ∧
    ((List.length ([(.int .i64 0), (.slice none 0 0)] : List Value) = 2) ∧ ∃ h109 : AH, stN h99 h.next 0 ([(.int .i64 0), (.slice none 0 0)] : List Value) = some h109 ∧
    (∃ i110 : Int, ∃ (p111 : Option Addr) (n112 c113 : Nat), ldN h109 h.next 0 2 = some ([(.int .i64 i110), (.slice p111 n112 c113)] : List Value) ∧
    (Q (.tuple #[(.agg #[(.int .i64 i110), (.slice p111 n112 c113)]), (.int .i64 231)]) h109))))))) ∧
    (¬ (i97 : Int) = 0 → (List.length ([(.int .i64 0), (.slice none 0 0)] : List Value) = 2) ∧ ∃ h114 : AH, stN h93 h.next 0 ([(.int .i64 0), (.slice none 0 0)] : List Value) = some h114 ∧
    (∃ i115 : Int, ∃ (p116 : Option Addr) (n117 c118 : Nat), ldN h114 h.next 0 2 = some ([(.int .i64 i115), (.slice p116 n117 c118)] : List Value) ∧
    (Q (.tuple #[(.agg #[(.int .i64 i115), (.slice p116 n117 c118)]), (.int .i64 231)]) h114))))))))))))) ∧
    (¬ (i28 : Int) = 0 → (List.length ([(.int .i64 0), (.slice none 0 0)] : List Value) = 2) ∧ ∃ h119 : AH, stN h24 h.next 0 ([(.int .i64 0), (.slice none 0 0)] : List Value) = some h119 ∧
    (∃ i120 : Int, ∃ (p121 : Option Addr) (n122 c123 : Nat), ldN h119 h.next 0 2 = some ([(.int .i64 i120), (.slice p121 n122 c123)] : List Value) ∧
    (Q (.tuple #[(.agg #[(.int .i64 i120), (.slice p121 n122 c123)]), (.int .i64 231)]) h119))))))))))) ∧
    (¬ (i6 : Int) = 0 → (List.length ([(.int .i64 0), (.slice none 0 0)] : List Value) = 2) ∧ ∃ h124 : AH, stN h2 h.next 0 ([(.int .i64 0), (.slice none 0 0)] : List Value) = some h124 ∧
    (∃ i125 : Int, ∃ (p126 : Option Addr) (n127 c128 : Nat), ldN h124 h.next 0 2 = some ([(.int .i64 i125), (.slice p126 n127 c128)] : List Value) ∧
    (Q (.tuple #[(.agg #[(.int .i64 i125), (.slice p126 n127 c128)]), (.int .i64 231)]) h124)))))) :
    Wf Tryz.prog K 13 [(.slice pa0 na0 ca0)] h Q :=
  vcF_sound (hs := [(9, [(50, .int .i64 0)])]) hk (Eq.mpr (by kernel_rfl) H)
theorem vc_script_opRead {K : Xs} (hk : K 25 = none) (pa0 : Option Addr) (na0 ca0 : Nat) (h : AH) (Q : Value → AH → Prop) (H :
    ∀ h0 : AH, h0 = h.alloc (.cells ([(.int .i64 0), (.string (ByteArray.mk #[])), (.string (ByteArray.mk #[])), (.int .i64 0), (.slice none 0 0), (.slice none 0 0)] : List Value) 43 false) →
    Wf Tryz.prog K 23 [(.slice pa0 na0 ca0)] h0 fun r1 h2 =>
    (∃ (p3 : Option Addr) (n4 c5 : Nat), ∃ i6 : Int, r1 = (.tuple #[(.slice p3 n4 c5), (.int .i64 i6)]) ∧
    (((i6 : Int) = 0 → ((((n4 : Nat) : Int) : Int) = 5 → ∀ h7 : AH, h7 = h2.alloc (.cells ([(.int .i64 1), (.int .i64 2)] : List Value) 3 false) →
    derefP p3 fun b8 o9 => (((0 : Int) ≤ 0) ∧ ((0 : Int) < ((n4 : Nat) : Int)) ∧
    (∃ (p10 : Option Addr) (n11 c12 : Nat), ld1 h7 b8 o9 = some (.slice p10 n11 c12) ∧
    (Wf Tryz.prog K 24 [(.slice (some ⟨h2.next, 0, none⟩) 2 2), (.slice p10 n11 c12)] h7 fun r13 h14 =>
    (∃ (p15 : Option Addr) (n16 c17 : Nat), ∃ i18 : Int, r13 = (.tuple #[(.slice p15 n16 c17), (.int .i64 i18)]) ∧
    (((i18 : Int) = 0 → derefP p15 fun b19 o20 => (((0 : Int) ≤ 0) ∧ ((0 : Int) < ((n16 : Nat) : Int)) ∧
    (∃ i21 : Int, ld1 h14 b19 o20 = some (.int .u64 i21) ∧
    (∀ i22 : Int, i22 = IntKind.wrap .i64 i21 → derefP p3 fun b23 o24 => (((0 : Int) ≤ 1) ∧ ((1 : Int) < ((n4 : Nat) : Int)) ∧
    (∃ (p25 : Option Addr) (n26 c27 : Nat), ld1 h14 b23 (o24 + 1) = some (.slice p25 n26 c27) ∧
    (∃ s28 : ByteArray, aConvert Tryz.prog h14 26 9 (.slice p25 n26 c27) = some (.string s28, h14) ∧
    (derefP p3 fun b29 o30 => (((0 : Int) ≤ 2) ∧ ((2 : Int) < ((n4 : Nat) : Int)) ∧
    (∃ (p31 : Option Addr) (n32 c33 : Nat), ld1 h14 b29 (o30 + 2) = some (.slice p31 n32 c33) ∧
    (∃ s34 : ByteArray, aConvert Tryz.prog h14 26 9 (.slice p31 n32 c33) = some (.string s34, h14) ∧
    (derefP p3 fun b35 o36 => (((0 : Int) ≤ 3) ∧ ((3 : Int) < ((n4 : Nat) : Int)) ∧
    (∃ (p37 : Option Addr) (n38 c39 : Nat), ld1 h14 b35 (o36 + 3) = some (.slice p37 n38 c39) ∧
    (∀ h40 : AH, h40 = h14.alloc (.cells ([(.int .i64 0), (.string (ByteArray.mk #[])), (.string (ByteArray.mk #[])), (.int .i64 0), (.slice none 0 0), (.slice none 0 0)] : List Value) 43 false) →
    (List.length ([(.int .i64 i22), (.string s28), (.string s34), (.int .i64 (-1)), (.slice p37 n38 c39), (.slice none 0 0)] : List Value) = 6) ∧ ∃ h41 : AH, stN h40 h14.next 0 ([(.int .i64 i22), (.string s28), (.string s34), (.int .i64 (-1)), (.slice p37 n38 c39), (.slice none 0 0)] : List Value) = some h41 ∧
    (derefP p15 fun b42 o43 => (((0 : Int) ≤ 1) ∧ ((1 : Int) < ((n16 : Nat) : Int)) ∧
    (∃ i44 : Int, ld1 h41 b42 (o43 + 1) = some (.int .u64 i44) ∧
    (((i44 : Int) = 65535 → derefP p3 fun b45 o46 => (((0 : Int) ≤ 4) ∧ ((4 : Int) < ((n4 : Nat) : Int)) ∧
    (∃ (p47 : Option Addr) (n48 c49 : Nat), ld1 h41 b45 (o46 + 4) = some (.slice p47 n48 c49) ∧
    (((64 : Int) < ((n48 : Nat) : Int) → (List.length ([(.int .i64 0), (.string (ByteArray.mk #[])), (.string (ByteArray.mk #[])), (.int .i64 0), (.slice none 0 0), (.slice none 0 0)] : List Value) = 6) ∧ ∃ h50 : AH, stN h41 h.next 0 ([(.int .i64 0), (.string (ByteArray.mk #[])), (.string (ByteArray.mk #[])), (.int .i64 0), (.slice none 0 0), (.slice none 0 0)] : List Value) = some h50 ∧
    (∃ i51 : Int, ∃ s52 : ByteArray, ∃ s53 : ByteArray, ∃ i54 : Int, ∃ (p55 : Option Addr) (n56 c57 : Nat), ∃ (p58 : Option Addr) (n59 c60 : Nat), ldN h50 h.next 0 6 = some ([(.int .i64 i51), (.string s52), (.string s53), (.int .i64 i54), (.slice p55 n56 c57), (.slice p58 n59 c60)] : List Value) ∧
    (Q (.tuple #[(.agg #[(.int .i64 i51), (.string s52), (.string s53), (.int .i64 i54), (.slice p55 n56 c57), (.slice p58 n59 c60)]), (.int .i64 231)]) h50))) ∧
    (¬ (64 : Int) < ((n48 : Nat) : Int) → derefP p3 fun b61 o62 => (((0 : Int) ≤ 4) ∧ ((4 : Int) < ((n4 : Nat) : Int)) ∧
    (∃ (p63 : Option Addr) (n64 c65 : Nat), ld1 h41 b61 (o62 + 4) = some (.slice p63 n64 c65) ∧
    (∃ I66 : Int → Nat → AH → Prop, (∃ n, I66 0 n h41) ∧
    ∀ (k67 : Nat) (h68 : AH) (i70 : Int), I66 i70 k67 h68 →
    ((i70 : Int) < ((n64 : Nat) : Int) → derefP p63 fun b71 o72 => (((0 : Int) ≤ i70) ∧ ((i70 : Int) < ((n64 : Nat) : Int)) ∧
    (∃ i73 : Int, ld1 h68 b71 (o72 + Int.toNat i70 * 1) = some (.int .u8 i73) ∧
    (((1 : Int) < i73 → (List.length ([(.int .i64 0), (.string (ByteArray.mk #[])), (.string (ByteArray.mk #[])), (.int .i64 0), (.slice none 0 0), (.slice none 0 0)] : List Value) = 6) ∧ ∃ h74 : AH, stN h68 h.next 0 ([(.int .i64 0), (.string (ByteArray.mk #[])), (.string (ByteArray.mk #[])), (.int .i64 0), (.slice none 0 0), (.slice none 0 0)] : List Value) = some h74 ∧
    (∃ i75 : Int, ∃ s76 : ByteArray, ∃ s77 : ByteArray, ∃ i78 : Int, ∃ (p79 : Option Addr) (n80 c81 : Nat), ∃ (p82 : Option Addr) (n83 c84 : Nat), ldN h74 h.next 0 6 = some ([(.int .i64 i75), (.string s76), (.string s77), (.int .i64 i78), (.slice p79 n80 c81), (.slice p82 n83 c84)] : List Value) ∧
    (Q (.tuple #[(.agg #[(.int .i64 i75), (.string s76), (.string s77), (.int .i64 i78), (.slice p79 n80 c81), (.slice p82 n83 c84)]), (.int .i64 231)]) h74))) ∧
    (¬ (1 : Int) < i73 → ∃ (p85 : Option Addr) (n86 c87 : Nat), ld1 h68 h14.next 5 = some (.slice p85 n86 c87) ∧
    (((i73 : Int) = 1 → ∀ h88 : AH, h88 = h68.alloc (.cells ([(.bool true)] : List Value) 4 false) →
    ∃ (p89 : Option Addr) (n90 c91 : Nat) (h92 : AH), aBuiltin Tryz.prog h88 .append #[41, 41] [(.slice p85 n86 c87), (.slice (some ⟨h68.next, 0, none⟩) 1 1)] = some (.slice p89 n90 c91, h92) ∧
    (∃ h93 : AH, st1 h92 h14.next 5 (.slice p89 n90 c91) = some h93 ∧
    (∀ i94 : Int, i94 = IntKind.wrap .i64 (i70 + 1) → ∃ j69, j69 < k67 ∧ I66 i94 j69 h93))) ∧
    (¬ (i73 : Int) = 1 → ∀ h95 : AH, h95 = h68.alloc (.cells ([(.bool false)] : List Value) 4 false) →
    ∃ (p96 : Option Addr) (n97 c98 : Nat) (h99 : AH), aBuiltin Tryz.prog h95 .append #[41, 41] [(.slice p85 n86 c87), (.slice (some ⟨h68.next, 0, none⟩) 1 1)] = some (.slice p96 n97 c98, h99) ∧
    (∃ h100 : AH, st1 h99 h14.next 5 (.slice p96 n97 c98) = some h100 ∧
    (∀ i101 : Int, i101 = IntKind.wrap .i64 (i70 + 1) → ∃ j69, j69 < k67 ∧ I66 i101 j69 h100))))))))) ∧
    (¬ (i70 : Int) < ((n64 : Nat) : Int) → ∃ i102 : Int, ∃ s103 : ByteArray, ∃ s104 : ByteArray, ∃ i105 : Int, ∃ (p106 : Option Addr) (n107 c108 : Nat), ∃ (p109 : Option Addr) (n110 c111 : Nat), ldN h68 h14.next 0 6 = some ([(.int .i64 i102), (.string s103), (.string s104), (.int .i64 i105), (.slice p106 n107 c108), (.slice p109 n110 c111)] : List Value) ∧
    ((List.length ([(.int .i64 i102), (.string s103), (.string s104), (.int .i64 i105), (.slice p106 n107 c108), (.slice p109 n110 c111)] : List Value) = 6) ∧ ∃ h112 : AH, stN h68 h.next 0 ([(.int .i64 i102), (.string s103), (.string s104), (.int .i64 i105), (.slice p106 n107 c108), (.slice p109 n110 c111)] : List Value) = some h112 ∧
    (∃ i113 : Int, ∃ s114 : ByteArray, ∃ s115 : ByteArray, ∃ i116 : Int, ∃ (p117 : Option Addr) (n118 c119 : Nat), ∃ (p120 : Option Addr) (n121 c122 : Nat), ldN h112 h.next 0 6 = some ([(.int .i64 i113), (.string s114), (.string s115), (.int .i64 i116), (.slice p117 n118 c119), (.slice p120 n121 c122)] : List Value) ∧
    (Q (.tuple #[(.agg #[(.int .i64 i113), (.string s114), (.string s115), (.int .i64 i116), (.slice p117 n118 c119), (.slice p120 n121 c122)]), (.int .i64 0)]) h112)))))))))))) ∧
    (¬ (i44 : Int) = 65535 → derefP p15 fun b123 o124 => (((0 : Int) ≤ 1) ∧ ((1 : Int) < ((n16 : Nat) : Int)) ∧
    (∃ i125 : Int, ld1 h41 b123 (o124 + 1) = some (.int .u64 i125) ∧
    (∀ i126 : Int, i126 = IntKind.wrap .i64 i125 → ∃ h127 : AH, st1 h41 h14.next 3 (.int .i64 i126) = some h127 ∧
    (derefP p3 fun b128 o129 => (((0 : Int) ≤ 4) ∧ ((4 : Int) < ((n4 : Nat) : Int)) ∧
    (∃ (p130 : Option Addr) (n131 c132 : Nat), ld1 h127 b128 (o129 + 4) = some (.slice p130 n131 c132) ∧
    (((64 : Int) < ((n131 : Nat) : Int) → (List.length ([(.int .i64 0), (.string (ByteArray.mk #[])), (.string (ByteArray.mk #[])), (.int .i64 0), (.slice none 0 0), (.slice none 0 0)] : List Value) = 6) ∧ ∃ h133 : AH, stN h127 h.next 0 ([(.int .i64 0), (.string (ByteArray.mk #[])), (.string (ByteArray.mk #[])), (.int .i64 0), (.slice none 0 0), (.slice none 0 0)] : List Value) = some h133 ∧
    (∃ i134 : Int, ∃ s135 : ByteArray, ∃ s136 : ByteArray, ∃ i137 : Int, ∃ (p138 : Option Addr) (n139 c140 : Nat), ∃ (p141 : Option Addr) (n142 c143 : Nat), ldN h133 h.next 0 6 = some ([(.int .i64 i134), (.string s135), (.string s136), (.int .i64 i137), (.slice p138 n139 c140), (.slice p141 n142 c143)] : List Value) ∧
    (Q (.tuple #[(.agg #[(.int .i64 i134), (.string s135), (.string s136), (.int .i64 i137), (.slice p138 n139 c140), (.slice p141 n142 c143)]), (.int .i64 231)]) h133))) ∧
    (¬ (64 : Int) < ((n131 : Nat) : Int) → derefP p3 fun b144 o145 => (((0 : Int) ≤ 4) ∧ ((4 : Int) < ((n4 : Nat) : Int)) ∧
    (∃ (p146 : Option Addr) (n147 c148 : Nat), ld1 h127 b144 (o145 + 4) = some (.slice p146 n147 c148) ∧
    (∃ I149 : Int → Nat → AH → Prop, (∃ n, I149 0 n h127) ∧
    ∀ (k150 : Nat) (h151 : AH) (i153 : Int), I149 i153 k150 h151 →
    ((i153 : Int) < ((n147 : Nat) : Int) → derefP p146 fun b154 o155 => (((0 : Int) ≤ i153) ∧ ((i153 : Int) < ((n147 : Nat) : Int)) ∧
    (∃ i156 : Int, ld1 h151 b154 (o155 + Int.toNat i153 * 1) = some (.int .u8 i156) ∧
    (((1 : Int) < i156 → (List.length ([(.int .i64 0), (.string (ByteArray.mk #[])), (.string (ByteArray.mk #[])), (.int .i64 0), (.slice none 0 0), (.slice none 0 0)] : List Value) = 6) ∧ ∃ h157 : AH, stN h151 h.next 0 ([(.int .i64 0), (.string (ByteArray.mk #[])), (.string (ByteArray.mk #[])), (.int .i64 0), (.slice none 0 0), (.slice none 0 0)] : List Value) = some h157 ∧
    (∃ i158 : Int, ∃ s159 : ByteArray, ∃ s160 : ByteArray, ∃ i161 : Int, ∃ (p162 : Option Addr) (n163 c164 : Nat), ∃ (p165 : Option Addr) (n166 c167 : Nat), ldN h157 h.next 0 6 = some ([(.int .i64 i158), (.string s159), (.string s160), (.int .i64 i161), (.slice p162 n163 c164), (.slice p165 n166 c167)] : List Value) ∧
    (Q (.tuple #[(.agg #[(.int .i64 i158), (.string s159), (.string s160), (.int .i64 i161), (.slice p162 n163 c164), (.slice p165 n166 c167)]), (.int .i64 231)]) h157))) ∧
    (¬ (1 : Int) < i156 → ∃ (p168 : Option Addr) (n169 c170 : Nat), ld1 h151 h14.next 5 = some (.slice p168 n169 c170) ∧
    (((i156 : Int) = 1 → ∀ h171 : AH, h171 = h151.alloc (.cells ([(.bool true)] : List Value) 4 false) →
    ∃ (p172 : Option Addr) (n173 c174 : Nat) (h175 : AH), aBuiltin Tryz.prog h171 .append #[41, 41] [(.slice p168 n169 c170), (.slice (some ⟨h151.next, 0, none⟩) 1 1)] = some (.slice p172 n173 c174, h175) ∧
    (∃ h176 : AH, st1 h175 h14.next 5 (.slice p172 n173 c174) = some h176 ∧
    (∀ i177 : Int, i177 = IntKind.wrap .i64 (i153 + 1) → ∃ j152, j152 < k150 ∧ I149 i177 j152 h176))) ∧
    (¬ (i156 : Int) = 1 → ∀ h178 : AH, h178 = h151.alloc (.cells ([(.bool false)] : List Value) 4 false) →
    ∃ (p179 : Option Addr) (n180 c181 : Nat) (h182 : AH), aBuiltin Tryz.prog h178 .append #[41, 41] [(.slice p168 n169 c170), (.slice (some ⟨h151.next, 0, none⟩) 1 1)] = some (.slice p179 n180 c181, h182) ∧
    (∃ h183 : AH, st1 h182 h14.next 5 (.slice p179 n180 c181) = some h183 ∧
    (∀ i184 : Int, i184 = IntKind.wrap .i64 (i153 + 1) → ∃ j152, j152 < k150 ∧ I149 i184 j152 h183))))))))) ∧
    (¬ (i153 : Int) < ((n147 : Nat) : Int) → ∃ i185 : Int, ∃ s186 : ByteArray, ∃ s187 : ByteArray, ∃ i188 : Int, ∃ (p189 : Option Addr) (n190 c191 : Nat), ∃ (p192 : Option Addr) (n193 c194 : Nat), ldN h151 h14.next 0 6 = some ([(.int .i64 i185), (.string s186), (.string s187), (.int .i64 i188), (.slice p189 n190 c191), (.slice p192 n193 c194)] : List Value) ∧
    ((List.length ([(.int .i64 i185), (.string s186), (.string s187), (.int .i64 i188), (.slice p189 n190 c191), (.slice p192 n193 c194)] : List Value) = 6) ∧ ∃ h195 : AH, stN h151 h.next 0 ([(.int .i64 i185), (.string s186), (.string s187), (.int .i64 i188), (.slice p189 n190 c191), (.slice p192 n193 c194)] : List Value) = some h195 ∧
    (∃ i196 : Int, ∃ s197 : ByteArray, ∃ s198 : ByteArray, ∃ i199 : Int, ∃ (p200 : Option Addr) (n201 c202 : Nat), ∃ (p203 : Option Addr) (n204 c205 : Nat), ldN h195 h.next 0 6 = some ([(.int .i64 i196), (.string s197), (.string s198), (.int .i64 i199), (.slice p200 n201 c202), (.slice p203 n204 c205)] : List Value) ∧
    (Q (.tuple #[(.agg #[(.int .i64 i196), (.string s197), (.string s198), (.int .i64 i199), (.slice p200 n201 c202), (.slice p203 n204 c205)]), (.int .i64 0)]) h195))))))))))))))))))))))))))))))))))) ∧
    (¬ (i18 : Int) = 0 → (List.length ([(.int .i64 0), (.string (ByteArray.mk #[])), (.string (ByteArray.mk #[])), (.int .i64 0), (.slice none 0 0), (.slice none 0 0)] : List Value) = 6) ∧ ∃ h206 : AH, stN h14 h.next 0 ([(.int .i64 0), (.string (ByteArray.mk #[])), (.string (ByteArray.mk #[])), (.int .i64 0), (.slice none 0 0), (.slice none 0 0)] : List Value) = some h206 ∧
    (∃ i207 : Int, ∃ s208 : ByteArray, ∃ s209 : ByteArray, ∃ i210 : Int, ∃ (p211 : Option Addr) (n212 c213 : Nat), ∃ (p214 : Option Addr) (n215 c216 : Nat), ldN h206 h.next 0 6 = some ([(.int .i64 i207), (.string s208), (.string s209), (.int .i64 i210), (.slice p211 n212 c213), (.slice p214 n215 c216)] : List Value) ∧
    (Q (.tuple #[(.agg #[(.int .i64 i207), (.string s208), (.string s209), (.int .i64 i210), (.slice p211 n212 c213), (.slice p214 n215 c216)]), (.int .i64 231)]) h206))))))))) ∧
    (¬ (((n4 : Nat) : Int) : Int) = 5 → (List.length ([(.int .i64 0), (.string (ByteArray.mk #[])), (.string (ByteArray.mk #[])), (.int .i64 0), (.slice none 0 0), (.slice none 0 0)] : List Value) = 6) ∧ ∃ h217 : AH, stN h2 h.next 0 ([(.int .i64 0), (.string (ByteArray.mk #[])), (.string (ByteArray.mk #[])), (.int .i64 0), (.slice none 0 0), (.slice none 0 0)] : List Value) = some h217 ∧
    (∃ i218 : Int, ∃ s219 : ByteArray, ∃ s220 : ByteArray, ∃ i221 : Int, ∃ (p222 : Option Addr) (n223 c224 : Nat), ∃ (p225 : Option Addr) (n226 c227 : Nat), ldN h217 h.next 0 6 = some ([(.int .i64 i218), (.string s219), (.string s220), (.int .i64 i221), (.slice p222 n223 c224), (.slice p225 n226 c227)] : List Value) ∧
    (Q (.tuple #[(.agg #[(.int .i64 i218), (.string s219), (.string s220), (.int .i64 i221), (.slice p222 n223 c224), (.slice p225 n226 c227)]), (.int .i64 231)]) h217)))) ∧
    (¬ (i6 : Int) = 0 → (List.length ([(.int .i64 0), (.string (ByteArray.mk #[])), (.string (ByteArray.mk #[])), (.int .i64 0), (.slice none 0 0), (.slice none 0 0)] : List Value) = 6) ∧ ∃ h228 : AH, stN h2 h.next 0 ([(.int .i64 0), (.string (ByteArray.mk #[])), (.string (ByteArray.mk #[])), (.int .i64 0), (.slice none 0 0), (.slice none 0 0)] : List Value) = some h228 ∧
    (∃ i229 : Int, ∃ s230 : ByteArray, ∃ s231 : ByteArray, ∃ i232 : Int, ∃ (p233 : Option Addr) (n234 c235 : Nat), ∃ (p236 : Option Addr) (n237 c238 : Nat), ldN h228 h.next 0 6 = some ([(.int .i64 i229), (.string s230), (.string s231), (.int .i64 i232), (.slice p233 n234 c235), (.slice p236 n237 c238)] : List Value) ∧
    (Q (.tuple #[(.agg #[(.int .i64 i229), (.string s230), (.string s231), (.int .i64 i232), (.slice p233 n234 c235), (.slice p236 n237 c238)]), (.int .i64 231)]) h228)))))) :
    Wf Tryz.prog K 25 [(.slice pa0 na0 ca0)] h Q :=
  vcF_sound (hs := [(13, [(69, .int .i64 0)])]) hk (Eq.mpr (by kernel_rfl) H)
theorem vc_bytes_Equal {K : Xs} (hk : K 26 = none) (pa0 : Option Addr) (na0 ca0 : Nat) (pa1 : Option Addr) (na1 ca1 : Nat) (h : AH) (Q : Value → AH → Prop) (H :
    ∃ s0 : ByteArray, aConvert Tryz.prog h 26 9 (.slice pa0 na0 ca0) = some (.string s0, h) ∧
    (∃ s1 : ByteArray, aConvert Tryz.prog h 26 9 (.slice pa1 na1 ca1) = some (.string s1, h) ∧
    ((s0 = s1 → Q (.bool true) h) ∧
    (¬ s0 = s1 → Q (.bool false) h)))) :
    Wf Tryz.prog K 26 [(.slice pa0 na0 ca0), (.slice pa1 na1 ca1)] h Q :=
  vcF_sound (hs := []) hk (Eq.mpr (by kernel_rfl) H)
theorem vc_aquiferref23_Copy {K : Xs} (hk : K 6 = none) (ia0_0 : Int) (pa0_1 : Option Addr) (na0_1 ca0_1 : Nat) (h : AH) (Q : Value → AH → Prop) (H :
    ∀ h0 : AH, h0 = h.alloc (.cells ([(.int .i64 ia0_0), (.slice pa0_1 na0_1 ca0_1)] : List Value) 24 false) →
    ∀ h1 : AH, h1 = h0.alloc (.cells ([(.int .i64 0), (.slice none 0 0)] : List Value) 24 false) →
    ∀ h2 : AH, h2 = h1.alloc (.cells ([] : List Value) 43 false) →
    ∃ (p3 : Option Addr) (n4 c5 : Nat), ld1 h2 h.next 1 = some (.slice p3 n4 c5) ∧
    (∃ I6 : Option Addr → Nat → Nat → Int → Nat → AH → Prop, (∃ n, I6 (some ⟨h1.next, 0, none⟩) 0 0 0 n h2) ∧
    ∀ (k7 : Nat) (h8 : AH) (p10 : Option Addr) (n11 : Nat) (c12 : Nat) (i13 : Int), I6 p10 n11 c12 i13 k7 h8 →
    ((i13 : Int) < ((n4 : Nat) : Int) → derefP p3 fun b14 o15 => (((0 : Int) ≤ i13) ∧ ((i13 : Int) < ((n4 : Nat) : Int)) ∧
    (∃ i16 : Int, ∃ s17 : ByteArray, ∃ s18 : ByteArray, ∃ i19 : Int, ∃ (p20 : Option Addr) (n21 c22 : Nat), ∃ (p23 : Option Addr) (n24 c25 : Nat), ldN h8 b14 (o15 + Int.toNat i13 * 6) 6 = some ([(.int .i64 i16), (.string s17), (.string s18), (.int .i64 i19), (.slice p20 n21 c22), (.slice p23 n24 c25)] : List Value) ∧
    (∀ h26 : AH, h26 = h8.alloc (.cells ([(.int .i64 0), (.string (ByteArray.mk #[])), (.string (ByteArray.mk #[])), (.int .i64 0), (.slice none 0 0), (.slice none 0 0)] : List Value) 43 false) →
    (List.length ([(.int .i64 i16), (.string s17), (.string s18), (.int .i64 i19), (.slice p20 n21 c22), (.slice p23 n24 c25)] : List Value) = 6) ∧ ∃ h27 : AH, stN h26 h8.next 0 ([(.int .i64 i16), (.string s17), (.string s18), (.int .i64 i19), (.slice p20 n21 c22), (.slice p23 n24 c25)] : List Value) = some h27 ∧
    (∀ h28 : AH, h28 = h27.alloc (.cells ([] : List Value) 5 false) →
    ∃ (p29 : Option Addr) (n30 c31 : Nat), ld1 h28 h8.next 4 = some (.slice p29 n30 c31) ∧
    (∃ (p32 : Option Addr) (n33 c34 : Nat) (h35 : AH), aBuiltin Tryz.prog h28 .append #[26, 26] [(.slice (some ⟨h27.next, 0, none⟩) 0 0), (.slice p29 n30 c31)] = some (.slice p32 n33 c34, h35) ∧
    (∃ h36 : AH, st1 h35 h8.next 4 (.slice p32 n33 c34) = some h36 ∧
    (∀ h37 : AH, h37 = h36.alloc (.cells ([] : List Value) 4 false) →
    ∃ (p38 : Option Addr) (n39 c40 : Nat), ld1 h37 h8.next 5 = some (.slice p38 n39 c40) ∧
    (∃ (p41 : Option Addr) (n42 c43 : Nat) (h44 : AH), aBuiltin Tryz.prog h37 .append #[41, 41] [(.slice (some ⟨h36.next, 0, none⟩) 0 0), (.slice p38 n39 c40)] = some (.slice p41 n42 c43, h44) ∧
    (∃ h45 : AH, st1 h44 h8.next 5 (.slice p41 n42 c43) = some h45 ∧
    (∃ i46 : Int, ∃ s47 : ByteArray, ∃ s48 : ByteArray, ∃ i49 : Int, ∃ (p50 : Option Addr) (n51 c52 : Nat), ∃ (p53 : Option Addr) (n54 c55 : Nat), ldN h45 h8.next 0 6 = some ([(.int .i64 i46), (.string s47), (.string s48), (.int .i64 i49), (.slice p50 n51 c52), (.slice p53 n54 c55)] : List Value) ∧
    (∀ h56 : AH, h56 = h45.alloc (.cells ([(.int .i64 i46), (.string s47), (.string s48), (.int .i64 i49), (.slice p50 n51 c52), (.slice p53 n54 c55)] : List Value) 43 false) →
    ∃ (p57 : Option Addr) (n58 c59 : Nat) (h60 : AH), aBuiltin Tryz.prog h56 .append #[22, 22] [(.slice p10 n11 c12), (.slice (some ⟨h45.next, 0, none⟩) 1 1)] = some (.slice p57 n58 c59, h60) ∧
    (∀ i61 : Int, i61 = IntKind.wrap .i64 (i13 + 1) → ∃ j9, j9 < k7 ∧ I6 p57 n58 c59 i61 j9 h60))))))))))))) ∧
    (¬ (i13 : Int) < ((n4 : Nat) : Int) → ∃ i62 : Int, ld1 h8 h.next 0 = some (.int .i64 i62) ∧
    ((List.length ([(.int .i64 i62), (.slice p10 n11 c12)] : List Value) = 2) ∧ ∃ h63 : AH, stN h8 h0.next 0 ([(.int .i64 i62), (.slice p10 n11 c12)] : List Value) = some h63 ∧
    (∃ i64 : Int, ∃ (p65 : Option Addr) (n66 c67 : Nat), ldN h63 h0.next 0 2 = some ([(.int .i64 i64), (.slice p65 n66 c67)] : List Value) ∧
    (Q (.agg #[(.int .i64 i64), (.slice p65 n66 c67)]) h63)))))) :
    Wf Tryz.prog K 6 [(.agg #[(.int .i64 ia0_0), (.slice pa0_1 na0_1 ca0_1)])] h Q :=
  vcF_sound (hs := [(3, [(3, .slice none 0 0), (10, .int .i64 0)])]) hk (Eq.mpr (by kernel_rfl) H)
theorem vc_aquiferref23_Bytes {K : Xs} (hk : K 8 = none) (ia0_0 : Int) (pa0_1 : Option Addr) (na0_1 ca0_1 : Nat) (h : AH) (Q : Value → AH → Prop) (H :
    ∀ h0 : AH, h0 = h.alloc (.cells ([(.int .i64 ia0_0), (.slice pa0_1 na0_1 ca0_1)] : List Value) 24 false) →
    ∃ i1 : Int, ∃ (p2 : Option Addr) (n3 c4 : Nat), ldN h0 h.next 0 2 = some ([(.int .i64 i1), (.slice p2 n3 c4)] : List Value) ∧
    (Wf Tryz.prog K 11 [(.agg #[(.int .i64 i1), (.slice p2 n3 c4)])] h0 fun r5 h6 =>
    (((r5 = (.bool true) ∧
    (∃ i7 : Int, ld1 h6 h.next 0 = some (.int .i64 i7) ∧
    ((256 ≠ (0 : Int)) ∧ (∀ i8 : Int, i8 = Int.tmod i7 256 → ∀ i9 : Int, i9 = IntKind.wrap .u8 i8 → ∃ i10 : Int, ld1 h6 h.next 0 = some (.int .i64 i10) ∧
    ((256 ≠ (0 : Int)) ∧ (∀ i11 : Int, i11 = IntKind.wrap .i64 (Int.tdiv i10 256) → ∀ i12 : Int, i12 = IntKind.wrap .u8 i11 → ∀ h13 : AH, h13 = h6.alloc (.cells ([(.int .u8 i9), (.int .u8 i12)] : List Value) 5 false) →
    ∀ h14 : AH, h14 = h13.alloc (.cells ([(.slice (some ⟨h6.next, 0, none⟩) 2 2)] : List Value) 26 false) →
    ∃ (p15 : Option Addr) (n16 c17 : Nat), ld1 h14 h.next 1 = some (.slice p15 n16 c17) ∧
    (∃ I18 : Option Addr → Nat → Nat → Int → Nat → AH → Prop, (∃ n, I18 (some ⟨h13.next, 0, none⟩) 1 1 0 n h14) ∧
    ∀ (k19 : Nat) (h20 : AH) (p22 : Option Addr) (n23 : Nat) (c24 : Nat) (i25 : Int), I18 p22 n23 c24 i25 k19 h20 →
    ((i25 : Int) < ((n16 : Nat) : Int) → derefP p15 fun b26 o27 => (((0 : Int) ≤ i25) ∧ ((i25 : Int) < ((n16 : Nat) : Int)) ∧
    (∃ i28 : Int, ∃ s29 : ByteArray, ∃ s30 : ByteArray, ∃ i31 : Int, ∃ (p32 : Option Addr) (n33 c34 : Nat), ∃ (p35 : Option Addr) (n36 c37 : Nat), ldN h20 b26 (o27 + Int.toNat i25 * 6) 6 = some ([(.int .i64 i28), (.string s29), (.string s30), (.int .i64 i31), (.slice p32 n33 c34), (.slice p35 n36 c37)] : List Value) ∧
    (∀ h38 : AH, h38 = h20.alloc (.cells ([(.int .i64 0), (.string (ByteArray.mk #[])), (.string (ByteArray.mk #[])), (.int .i64 0), (.slice none 0 0), (.slice none 0 0)] : List Value) 43 false) →
    (List.length ([(.int .i64 i28), (.string s29), (.string s30), (.int .i64 i31), (.slice p32 n33 c34), (.slice p35 n36 c37)] : List Value) = 6) ∧ ∃ h39 : AH, stN h38 h20.next 0 ([(.int .i64 i28), (.string s29), (.string s30), (.int .i64 i31), (.slice p32 n33 c34), (.slice p35 n36 c37)] : List Value) = some h39 ∧
    (∃ i40 : Int, ld1 h39 h20.next 0 = some (.int .i64 i40) ∧
    (∀ i41 : Int, i41 = IntKind.wrap .u8 i40 → ∃ i42 : Int, ld1 h39 h20.next 3 = some (.int .i64 i42) ∧
    ((256 ≠ (0 : Int)) ∧ (∀ i43 : Int, i43 = Int.tmod i42 256 → ∀ i44 : Int, i44 = IntKind.wrap .u8 i43 → ∃ i45 : Int, ld1 h39 h20.next 3 = some (.int .i64 i45) ∧
    ((256 ≠ (0 : Int)) ∧ (∀ i46 : Int, i46 = IntKind.wrap .i64 (Int.tdiv i45 256) → ∀ i47 : Int, i47 = IntKind.wrap .u8 i46 → ∀ h48 : AH, h48 = h39.alloc (.cells ([(.int .u8 i41), (.int .u8 i44), (.int .u8 i47)] : List Value) 5 false) →
    ∃ i49 : Int, ld1 h48 h20.next 3 = some (.int .i64 i49) ∧
    (((i49 : Int) < 0 → ∃ i50 : Int, ld1 h48 h20.next 0 = some (.int .i64 i50) ∧
    (∀ i51 : Int, i51 = IntKind.wrap .u8 i50 → ∀ h52 : AH, h52 = h48.alloc (.cells ([(.int .u8 i51), (.int .u8 255), (.int .u8 255)] : List Value) 5 false) →
    ∀ h53 : AH, h53 = h52.alloc (.cells ([] : List Value) 5 false) →
    ∃ (p54 : Option Addr) (n55 c56 : Nat), ld1 h53 h20.next 5 = some (.slice p54 n55 c56) ∧
    (∃ I57 : Option Addr → Nat → Nat → Int → Nat → AH → Prop, (∃ n, I57 (some ⟨h52.next, 0, none⟩) 0 0 0 n h53) ∧
    ∀ (k58 : Nat) (h59 : AH) (p61 : Option Addr) (n62 : Nat) (c63 : Nat) (i64 : Int), I57 p61 n62 c63 i64 k58 h59 →
    ((i64 : Int) < ((n55 : Nat) : Int) → derefP p54 fun b65 o66 => (((0 : Int) ≤ i64) ∧ ((i64 : Int) < ((n55 : Nat) : Int)) ∧
    (((ld1 h59 b65 (o66 + Int.toNat i64 * 1) = some (.bool true) ∧
    (∀ h67 : AH, h67 = h59.alloc (.cells ([(.int .u8 1)] : List Value) 5 false) →
    ∃ (p68 : Option Addr) (n69 c70 : Nat) (h71 : AH), aBuiltin Tryz.prog h67 .append #[26, 26] [(.slice p61 n62 c63), (.slice (some ⟨h59.next, 0, none⟩) 1 1)] = some (.slice p68 n69 c70, h71) ∧
    (∀ i72 : Int, i72 = IntKind.wrap .i64 (i64 + 1) → ∃ j60, j60 < k58 ∧ I57 p68 n69 c70 i72 j60 h71))) ∨ (ld1 h59 b65 (o66 + Int.toNat i64 * 1) = some (.bool false) ∧
    (∀ h73 : AH, h73 = h59.alloc (.cells ([(.int .u8 0)] : List Value) 5 false) →
    ∃ (p74 : Option Addr) (n75 c76 : Nat) (h77 : AH), aBuiltin Tryz.prog h73 .append #[26, 26] [(.slice p61 n62 c63), (.slice (some ⟨h59.next, 0, none⟩) 1 1)] = some (.slice p74 n75 c76, h77) ∧
    (∀ i78 : Int, i78 = IntKind.wrap .i64 (i64 + 1) → ∃ j60, j60 < k58 ∧ I57 p74 n75 c76 i78 j60 h77))))))) ∧
    (¬ (i64 : Int) < ((n55 : Nat) : Int) → ∃ s79 : ByteArray, ld1 h59 h20.next 1 = some (.string s79) ∧
    (∃ (p80 : Option Addr) (n81 c82 : Nat) (h83 : AH), aConvert Tryz.prog h59 9 26 (.string s79) = some (.slice p80 n81 c82, h83) ∧
    (∃ s84 : ByteArray, ld1 h83 h20.next 2 = some (.string s84) ∧
    (∃ (p85 : Option Addr) (n86 c87 : Nat) (h88 : AH), aConvert Tryz.prog h83 9 26 (.string s84) = some (.slice p85 n86 c87, h88) ∧
    (∃ (p89 : Option Addr) (n90 c91 : Nat), ld1 h88 h20.next 4 = some (.slice p89 n90 c91) ∧
    (∀ h92 : AH, h92 = h88.alloc (.cells ([(.slice (some ⟨h48.next, 0, none⟩) 3 3), (.slice p80 n81 c82), (.slice p85 n86 c87), (.slice p89 n90 c91), (.slice p61 n62 c63)] : List Value) 26 false) →
    Wf Tryz.prog K 18 [(.slice (some ⟨h88.next, 0, none⟩) 5 5)] h92 fun r93 h94 =>
    (∃ (p95 : Option Addr) (n96 c97 : Nat), ∃ i98 : Int, r93 = (.tuple #[(.slice p95 n96 c97), (.int .i64 i98)]) ∧
    (∀ h99 : AH, h99 = h94.alloc (.cells ([(.slice p95 n96 c97)] : List Value) 26 false) →
    ∃ (p100 : Option Addr) (n101 c102 : Nat) (h103 : AH), aBuiltin Tryz.prog h99 .append #[47, 47] [(.slice p22 n23 c24), (.slice (some ⟨h94.next, 0, none⟩) 1 1)] = some (.slice p100 n101 c102, h103) ∧
    (∀ i104 : Int, i104 = IntKind.wrap .i64 (i25 + 1) → ∃ j21, j21 < k19 ∧ I18 p100 n101 c102 i104 j21 h103)))))))))))) ∧
    (¬ (i49 : Int) < 0 → ∀ h105 : AH, h105 = h48.alloc (.cells ([] : List Value) 5 false) →
    ∃ (p106 : Option Addr) (n107 c108 : Nat), ld1 h105 h20.next 5 = some (.slice p106 n107 c108) ∧
    (∃ I109 : Option Addr → Nat → Nat → Int → Nat → AH → Prop, (∃ n, I109 (some ⟨h48.next, 0, none⟩) 0 0 0 n h105) ∧
    ∀ (k110 : Nat) (h111 : AH) (p113 : Option Addr) (n114 : Nat) (c115 : Nat) (i116 : Int), I109 p113 n114 c115 i116 k110 h111 →
    ((i116 : Int) < ((n107 : Nat) : Int) → derefP p106 fun b117 o118 => (((0 : Int) ≤ i116) ∧ ((i116 : Int) < ((n107 : Nat) : Int)) ∧
    (((ld1 h111 b117 (o118 + Int.toNat i116 * 1) = some (.bool true) ∧
    (∀ h119 : AH, h119 = h111.alloc (.cells ([(.int .u8 1)] : List Value) 5 false) →
    ∃ (p120 : Option Addr) (n121 c122 : Nat) (h123 : AH), aBuiltin Tryz.prog h119 .append #[26, 26] [(.slice p113 n114 c115), (.slice (some ⟨h111.next, 0, none⟩) 1 1)] = some (.slice p120 n121 c122, h123) ∧
    (∀ i124 : Int, i124 = IntKind.wrap .i64 (i116 + 1) → ∃ j112, j112 < k110 ∧ I109 p120 n121 c122 i124 j112 h123))) ∨ (ld1 h111 b117 (o118 + Int.toNat i116 * 1) = some (.bool false) ∧
    (∀ h125 : AH, h125 = h111.alloc (.cells ([(.int .u8 0)] : List Value) 5 false) →
    ∃ (p126 : Option Addr) (n127 c128 : Nat) (h129 : AH), aBuiltin Tryz.prog h125 .append #[26, 26] [(.slice p113 n114 c115), (.slice (some ⟨h111.next, 0, none⟩) 1 1)] = some (.slice p126 n127 c128, h129) ∧
    (∀ i130 : Int, i130 = IntKind.wrap .i64 (i116 + 1) → ∃ j112, j112 < k110 ∧ I109 p126 n127 c128 i130 j112 h129))))))) ∧
    (¬ (i116 : Int) < ((n107 : Nat) : Int) → ∃ s131 : ByteArray, ld1 h111 h20.next 1 = some (.string s131) ∧
    (∃ (p132 : Option Addr) (n133 c134 : Nat) (h135 : AH), aConvert Tryz.prog h111 9 26 (.string s131) = some (.slice p132 n133 c134, h135) ∧
    (∃ s136 : ByteArray, ld1 h135 h20.next 2 = some (.string s136) ∧
    (∃ (p137 : Option Addr) (n138 c139 : Nat) (h140 : AH), aConvert Tryz.prog h135 9 26 (.string s136) = some (.slice p137 n138 c139, h140) ∧
    (∃ (p141 : Option Addr) (n142 c143 : Nat), ld1 h140 h20.next 4 = some (.slice p141 n142 c143) ∧
    (∀ h144 : AH, h144 = h140.alloc (.cells ([(.slice (some ⟨h39.next, 0, none⟩) 3 3), (.slice p132 n133 c134), (.slice p137 n138 c139), (.slice p141 n142 c143), (.slice p113 n114 c115)] : List Value) 26 false) →
    Wf Tryz.prog K 18 [(.slice (some ⟨h140.next, 0, none⟩) 5 5)] h144 fun r145 h146 =>
    (∃ (p147 : Option Addr) (n148 c149 : Nat), ∃ i150 : Int, r145 = (.tuple #[(.slice p147 n148 c149), (.int .i64 i150)]) ∧
    (∀ h151 : AH, h151 = h146.alloc (.cells ([(.slice p147 n148 c149)] : List Value) 26 false) →
    ∃ (p152 : Option Addr) (n153 c154 : Nat) (h155 : AH), aBuiltin Tryz.prog h151 .append #[47, 47] [(.slice p22 n23 c24), (.slice (some ⟨h146.next, 0, none⟩) 1 1)] = some (.slice p152 n153 c154, h155) ∧
    (∀ i156 : Int, i156 = IntKind.wrap .i64 (i25 + 1) → ∃ j21, j21 < k19 ∧ I18 p152 n153 c154 i156 j21 h155)))))))))))))))))))))) ∧
    (¬ (i25 : Int) < ((n16 : Nat) : Int) → Wf Tryz.prog K 18 [(.slice p22 n23 c24)] h20 fun r157 h158 =>
    (∃ (p159 : Option Addr) (n160 c161 : Nat), ∃ i162 : Int, r157 = (.tuple #[(.slice p159 n160 c161), (.int .i64 i162)]) ∧
    (Q (.tuple #[(.slice p159 n160 c161), (.int .i64 0)]) h158)))))))))) ∨ (r5 = (.bool false) ∧
    (Q (.tuple #[(.slice none 0 0), (.int .i64 231)]) h6)))))) :
    Wf Tryz.prog K 8 [(.agg #[(.int .i64 ia0_0), (.slice pa0_1 na0_1 ca0_1)])] h Q :=
  vcF_sound (hs := [(5, [(4, .slice none 0 0), (31, .int .i64 0)]), (12, [(8, .slice none 0 0), (58, .int .i64 0)])]) hk (Eq.mpr (by kernel_rfl) H)
theorem vc_aquiferref23_Right {K : Xs} (hk : K 11 = none) (ia0_0 : Int) (pa0_1 : Option Addr) (na0_1 ca0_1 : Nat) (h : AH) (Q : Value → AH → Prop) (H :
    ∀ h0 : AH, h0 = h.alloc (.cells ([(.int .i64 ia0_0), (.slice pa0_1 na0_1 ca0_1)] : List Value) 24 false) →
    ∃ i1 : Int, ld1 h0 h.next 0 = some (.int .i64 i1) ∧
    (((i1 : Int) < 64 → Q (.bool false) h0) ∧
    (¬ (i1 : Int) < 64 → ∃ i2 : Int, ld1 h0 h.next 0 = some (.int .i64 i2) ∧
    (((1024 : Int) < i2 → Q (.bool false) h0) ∧
    (¬ (1024 : Int) < i2 → ∃ (p3 : Option Addr) (n4 c5 : Nat), ld1 h0 h.next 1 = some (.slice p3 n4 c5) ∧
    (((200 : Int) < ((n4 : Nat) : Int) → Q (.bool false) h0) ∧
    (¬ (200 : Int) < ((n4 : Nat) : Int) → ∃ (p6 : Option Addr) (n7 c8 : Nat), ld1 h0 h.next 1 = some (.slice p6 n7 c8) ∧
    (∃ I9 : Int → Nat → AH → Prop, (∃ n, I9 0 n h0) ∧
    ∀ (k10 : Nat) (h11 : AH) (i13 : Int), I9 i13 k10 h11 →
    ((i13 : Int) < ((n7 : Nat) : Int) → derefP p6 fun b14 o15 => (((0 : Int) ≤ i13) ∧ ((i13 : Int) < ((n7 : Nat) : Int)) ∧
    (∃ i16 : Int, ∃ s17 : ByteArray, ∃ s18 : ByteArray, ∃ i19 : Int, ∃ (p20 : Option Addr) (n21 c22 : Nat), ∃ (p23 : Option Addr) (n24 c25 : Nat), ldN h11 b14 (o15 + Int.toNat i13 * 6) 6 = some ([(.int .i64 i16), (.string s17), (.string s18), (.int .i64 i19), (.slice p20 n21 c22), (.slice p23 n24 c25)] : List Value) ∧
    (∀ h26 : AH, h26 = h11.alloc (.cells ([(.int .i64 0), (.string (ByteArray.mk #[])), (.string (ByteArray.mk #[])), (.int .i64 0), (.slice none 0 0), (.slice none 0 0)] : List Value) 43 false) →
    (List.length ([(.int .i64 i16), (.string s17), (.string s18), (.int .i64 i19), (.slice p20 n21 c22), (.slice p23 n24 c25)] : List Value) = 6) ∧ ∃ h27 : AH, stN h26 h11.next 0 ([(.int .i64 i16), (.string s17), (.string s18), (.int .i64 i19), (.slice p20 n21 c22), (.slice p23 n24 c25)] : List Value) = some h27 ∧
    (∃ i28 : Int, ∃ s29 : ByteArray, ∃ s30 : ByteArray, ∃ i31 : Int, ∃ (p32 : Option Addr) (n33 c34 : Nat), ∃ (p35 : Option Addr) (n36 c37 : Nat), ldN h27 h11.next 0 6 = some ([(.int .i64 i28), (.string s29), (.string s30), (.int .i64 i31), (.slice p32 n33 c34), (.slice p35 n36 c37)] : List Value) ∧
    (Wf Tryz.prog K 21 [(.agg #[(.int .i64 i28), (.string s29), (.string s30), (.int .i64 i31), (.slice p32 n33 c34), (.slice p35 n36 c37)])] h27 fun r38 h39 =>
    (((r38 = (.bool true) ∧
    (∀ i40 : Int, i40 = IntKind.wrap .i64 (i13 + 1) → ∃ j12, j12 < k10 ∧ I9 i40 j12 h39)) ∨ (r38 = (.bool false) ∧
    (Q (.bool false) h39)))))))))) ∧
    (¬ (i13 : Int) < ((n7 : Nat) : Int) → Q (.bool true) h11))))))))) :
    Wf Tryz.prog K 11 [(.agg #[(.int .i64 ia0_0), (.slice pa0_1 na0_1 ca0_1)])] h Q :=
  vcF_sound (hs := [(4, [(22, .int .i64 0)])]) hk (Eq.mpr (by kernel_rfl) H)
theorem vc_aquiferref23_right {K : Xs} (hk : K 21 = none) (ia0_0 : Int) (sa0_1 : ByteArray) (sa0_2 : ByteArray) (ia0_3 : Int) (pa0_4 : Option Addr) (na0_4 ca0_4 : Nat) (pa0_5 : Option Addr) (na0_5 ca0_5 : Nat) (h : AH) (Q : Value → AH → Prop) (H :
    ∀ h0 : AH, h0 = h.alloc (.cells ([(.int .i64 ia0_0), (.string sa0_1), (.string sa0_2), (.int .i64 ia0_3), (.slice pa0_4 na0_4 ca0_4), (.slice pa0_5 na0_5 ca0_5)] : List Value) 43 false) →
    ∃ i1 : Int, ld1 h0 h.next 0 = some (.int .i64 i1) ∧
    (Wf Tryz.prog K 33 [(.int .i64 i1)] h0 fun r2 h3 =>
    (∃ b4 : Bool, ∃ b5 : Bool, ∃ b6 : Bool, ∃ b7 : Bool, ∃ b8 : Bool, r2 = (.agg #[(.bool b4), (.bool b5), (.bool b6), (.bool b7), (.bool b8)]) ∧
    (∀ h9 : AH, h9 = h3.alloc (.cells ([(.bool false), (.bool false), (.bool false), (.bool false), (.bool false)] : List Value) 82 false) →
    (List.length ([(.bool b4), (.bool b5), (.bool b6), (.bool b7), (.bool b8)] : List Value) = 5) ∧ ∃ h10 : AH, stN h9 h3.next 0 ([(.bool b4), (.bool b5), (.bool b6), (.bool b7), (.bool b8)] : List Value) = some h10 ∧
    (∃ i11 : Int, ld1 h10 h.next 0 = some (.int .i64 i11) ∧
    (((i11 : Int) < 0 → Q (.bool false) h10) ∧
    (¬ (i11 : Int) < 0 → ∃ i12 : Int, ld1 h10 h.next 0 = some (.int .i64 i12) ∧
    (((12 : Int) < i12 → Q (.bool false) h10) ∧
    (¬ (12 : Int) < i12 → ∃ s13 : ByteArray, ld1 h10 h.next 1 = some (.string s13) ∧
    (((60 : Int) < ((ByteArray.size s13 : Nat) : Int) → Q (.bool false) h10) ∧
    (¬ (60 : Int) < ((ByteArray.size s13 : Nat) : Int) → ∃ s14 : ByteArray, ld1 h10 h.next 2 = some (.string s14) ∧
    (((60 : Int) < ((ByteArray.size s14 : Nat) : Int) → Q (.bool false) h10) ∧
    (¬ (60 : Int) < ((ByteArray.size s14 : Nat) : Int) → ∃ (p15 : Option Addr) (n16 c17 : Nat), ld1 h10 h.next 4 = some (.slice p15 n16 c17) ∧
    (((129 : Int) < ((n16 : Nat) : Int) → Q (.bool false) h10) ∧
    (¬ (129 : Int) < ((n16 : Nat) : Int) → ∃ (p18 : Option Addr) (n19 c20 : Nat), ld1 h10 h.next 5 = some (.slice p18 n19 c20) ∧
    (((64 : Int) < ((n19 : Nat) : Int) → Q (.bool false) h10) ∧
    (¬ (64 : Int) < ((n19 : Nat) : Int) → ∃ i21 : Int, ld1 h10 h.next 3 = some (.int .i64 i21) ∧
    (((i21 : Int) < (-1) → Q (.bool false) h10) ∧
    (¬ (i21 : Int) < (-1) → ∃ i22 : Int, ld1 h10 h.next 3 = some (.int .i64 i22) ∧
    (((65534 : Int) < i22 → Q (.bool false) h10) ∧
    (¬ (65534 : Int) < i22 → ((0 : Int) ≤ 0) ∧ ((0 : Int) < 5) ∧
    (((ld1 h10 h3.next 0 = some (.bool true) ∧
    (((0 : Int) ≤ 1) ∧ ((1 : Int) < 5) ∧
    (((ld1 h10 h3.next 1 = some (.bool true) ∧
    (((0 : Int) ≤ 2) ∧ ((2 : Int) < 5) ∧
    (((ld1 h10 h3.next 2 = some (.bool true) ∧
    (((0 : Int) ≤ 3) ∧ ((3 : Int) < 5) ∧
    (((ld1 h10 h3.next 3 = some (.bool true) ∧
    (((0 : Int) ≤ 4) ∧ ((4 : Int) < 5) ∧
    (((ld1 h10 h3.next 4 = some (.bool true) ∧
    (Q (.bool true) h10)) ∨ (ld1 h10 h3.next 4 = some (.bool false) ∧
    (∃ (p23 : Option Addr) (n24 c25 : Nat), ld1 h10 h.next 5 = some (.slice p23 n24 c25) ∧
    (((((n24 : Nat) : Int) : Int) = 0 → Q (.bool true) h10) ∧
    (¬ (((n24 : Nat) : Int) : Int) = 0 → Q (.bool false) h10)))))))) ∨ (ld1 h10 h3.next 3 = some (.bool false) ∧
    (∃ (p26 : Option Addr) (n27 c28 : Nat), ld1 h10 h.next 4 = some (.slice p26 n27 c28) ∧
    (((((n27 : Nat) : Int) : Int) = 0 → ((0 : Int) ≤ 4) ∧ ((4 : Int) < 5) ∧
    (((ld1 h10 h3.next 4 = some (.bool true) ∧
    (Q (.bool true) h10)) ∨ (ld1 h10 h3.next 4 = some (.bool false) ∧
    (∃ (p29 : Option Addr) (n30 c31 : Nat), ld1 h10 h.next 5 = some (.slice p29 n30 c31) ∧
    (((((n30 : Nat) : Int) : Int) = 0 → Q (.bool true) h10) ∧
    (¬ (((n30 : Nat) : Int) : Int) = 0 → Q (.bool false) h10))))))) ∧
    (¬ (((n27 : Nat) : Int) : Int) = 0 → Q (.bool false) h10)))))))) ∨ (ld1 h10 h3.next 2 = some (.bool false) ∧
    (∃ i32 : Int, ld1 h10 h.next 3 = some (.int .i64 i32) ∧
    (((i32 : Int) = 0 → ((0 : Int) ≤ 3) ∧ ((3 : Int) < 5) ∧
    (((ld1 h10 h3.next 3 = some (.bool true) ∧
    (((0 : Int) ≤ 4) ∧ ((4 : Int) < 5) ∧
    (((ld1 h10 h3.next 4 = some (.bool true) ∧
    (Q (.bool true) h10)) ∨ (ld1 h10 h3.next 4 = some (.bool false) ∧
    (∃ (p33 : Option Addr) (n34 c35 : Nat), ld1 h10 h.next 5 = some (.slice p33 n34 c35) ∧
    (((((n34 : Nat) : Int) : Int) = 0 → Q (.bool true) h10) ∧
    (¬ (((n34 : Nat) : Int) : Int) = 0 → Q (.bool false) h10)))))))) ∨ (ld1 h10 h3.next 3 = some (.bool false) ∧
    (∃ (p36 : Option Addr) (n37 c38 : Nat), ld1 h10 h.next 4 = some (.slice p36 n37 c38) ∧
    (((((n37 : Nat) : Int) : Int) = 0 → ((0 : Int) ≤ 4) ∧ ((4 : Int) < 5) ∧
    (((ld1 h10 h3.next 4 = some (.bool true) ∧
    (Q (.bool true) h10)) ∨ (ld1 h10 h3.next 4 = some (.bool false) ∧
    (∃ (p39 : Option Addr) (n40 c41 : Nat), ld1 h10 h.next 5 = some (.slice p39 n40 c41) ∧
    (((((n40 : Nat) : Int) : Int) = 0 → Q (.bool true) h10) ∧
    (¬ (((n40 : Nat) : Int) : Int) = 0 → Q (.bool false) h10))))))) ∧
    (¬ (((n37 : Nat) : Int) : Int) = 0 → Q (.bool false) h10))))))) ∧
    (¬ (i32 : Int) = 0 → Q (.bool false) h10)))))))) ∨ (ld1 h10 h3.next 1 = some (.bool false) ∧
    (∃ s42 : ByteArray, ld1 h10 h.next 2 = some (.string s42) ∧
    ((s42 = (ByteArray.mk #[]) → ((0 : Int) ≤ 2) ∧ ((2 : Int) < 5) ∧
    (((ld1 h10 h3.next 2 = some (.bool true) ∧
    (((0 : Int) ≤ 3) ∧ ((3 : Int) < 5) ∧
    (((ld1 h10 h3.next 3 = some (.bool true) ∧
    (((0 : Int) ≤ 4) ∧ ((4 : Int) < 5) ∧
    (((ld1 h10 h3.next 4 = some (.bool true) ∧
    (Q (.bool true) h10)) ∨ (ld1 h10 h3.next 4 = some (.bool false) ∧
    (∃ (p43 : Option Addr) (n44 c45 : Nat), ld1 h10 h.next 5 = some (.slice p43 n44 c45) ∧
    (((((n44 : Nat) : Int) : Int) = 0 → Q (.bool true) h10) ∧
    (¬ (((n44 : Nat) : Int) : Int) = 0 → Q (.bool false) h10)))))))) ∨ (ld1 h10 h3.next 3 = some (.bool false) ∧
    (∃ (p46 : Option Addr) (n47 c48 : Nat), ld1 h10 h.next 4 = some (.slice p46 n47 c48) ∧
    (((((n47 : Nat) : Int) : Int) = 0 → ((0 : Int) ≤ 4) ∧ ((4 : Int) < 5) ∧
    (((ld1 h10 h3.next 4 = some (.bool true) ∧
    (Q (.bool true) h10)) ∨ (ld1 h10 h3.next 4 = some (.bool false) ∧
    (∃ (p49 : Option Addr) (n50 c51 : Nat), ld1 h10 h.next 5 = some (.slice p49 n50 c51) ∧
    (((((n50 : Nat) : Int) : Int) = 0 → Q (.bool true) h10) ∧
    (¬ (((n50 : Nat) : Int) : Int) = 0 → Q (.bool false) h10))))))) ∧
    (¬ (((n47 : Nat) : Int) : Int) = 0 → Q (.bool false) h10)))))))) ∨ (ld1 h10 h3.next 2 = some (.bool false) ∧
    (∃ i52 : Int, ld1 h10 h.next 3 = some (.int .i64 i52) ∧
    (((i52 : Int) = 0 → ((0 : Int) ≤ 3) ∧ ((3 : Int) < 5) ∧
    (((ld1 h10 h3.next 3 = some (.bool true) ∧
    (((0 : Int) ≤ 4) ∧ ((4 : Int) < 5) ∧
    (((ld1 h10 h3.next 4 = some (.bool true) ∧
    (Q (.bool true) h10)) ∨ (ld1 h10 h3.next 4 = some (.bool false) ∧
    (∃ (p53 : Option Addr) (n54 c55 : Nat), ld1 h10 h.next 5 = some (.slice p53 n54 c55) ∧
    (((((n54 : Nat) : Int) : Int) = 0 → Q (.bool true) h10) ∧
    (¬ (((n54 : Nat) : Int) : Int) = 0 → Q (.bool false) h10)))))))) ∨ (ld1 h10 h3.next 3 = some (.bool false) ∧
    (∃ (p56 : Option Addr) (n57 c58 : Nat), ld1 h10 h.next 4 = some (.slice p56 n57 c58) ∧
    (((((n57 : Nat) : Int) : Int) = 0 → ((0 : Int) ≤ 4) ∧ ((4 : Int) < 5) ∧
    (((ld1 h10 h3.next 4 = some (.bool true) ∧
    (Q (.bool true) h10)) ∨ (ld1 h10 h3.next 4 = some (.bool false) ∧
    (∃ (p59 : Option Addr) (n60 c61 : Nat), ld1 h10 h.next 5 = some (.slice p59 n60 c61) ∧
    (((((n60 : Nat) : Int) : Int) = 0 → Q (.bool true) h10) ∧
    (¬ (((n60 : Nat) : Int) : Int) = 0 → Q (.bool false) h10))))))) ∧
    (¬ (((n57 : Nat) : Int) : Int) = 0 → Q (.bool false) h10))))))) ∧
    (¬ (i52 : Int) = 0 → Q (.bool false) h10))))))) ∧
    (¬ s42 = (ByteArray.mk #[]) → Q (.bool false) h10)))))))) ∨ (ld1 h10 h3.next 0 = some (.bool false) ∧
    (∃ s62 : ByteArray, ld1 h10 h.next 1 = some (.string s62) ∧
    ((s62 = (ByteArray.mk #[]) → ((0 : Int) ≤ 1) ∧ ((1 : Int) < 5) ∧
    (((ld1 h10 h3.next 1 = some (.bool true) ∧
    (((0 : Int) ≤ 2) ∧ ((2 : Int) < 5) ∧
    (((ld1 h10 h3.next 2 = some (.bool true) ∧
    (((0 : Int) ≤ 3) ∧ ((3 : Int) < 5) ∧
    (((ld1 h10 h3.next 3 = some (.bool true) ∧
    (((0 : Int) ≤ 4) ∧ ((4 : Int) < 5) ∧
    (((ld1 h10 h3.next 4 = some (.bool true) ∧
    (Q (.bool true) h10)) ∨ (ld1 h10 h3.next 4 = some (.bool false) ∧
    (∃ (p63 : Option Addr) (n64 c65 : Nat), ld1 h10 h.next 5 = some (.slice p63 n64 c65) ∧
    (((((n64 : Nat) : Int) : Int) = 0 → Q (.bool true) h10) ∧
    (¬ (((n64 : Nat) : Int) : Int) = 0 → Q (.bool false) h10)))))))) ∨ (ld1 h10 h3.next 3 = some (.bool false) ∧
    (∃ (p66 : Option Addr) (n67 c68 : Nat), ld1 h10 h.next 4 = some (.slice p66 n67 c68) ∧
    (((((n67 : Nat) : Int) : Int) = 0 → ((0 : Int) ≤ 4) ∧ ((4 : Int) < 5) ∧
    (((ld1 h10 h3.next 4 = some (.bool true) ∧
    (Q (.bool true) h10)) ∨ (ld1 h10 h3.next 4 = some (.bool false) ∧
    (∃ (p69 : Option Addr) (n70 c71 : Nat), ld1 h10 h.next 5 = some (.slice p69 n70 c71) ∧
    (((((n70 : Nat) : Int) : Int) = 0 → Q (.bool true) h10) ∧
    (¬ (((n70 : Nat) : Int) : Int) = 0 → Q (.bool false) h10))))))) ∧
    (¬ (((n67 : Nat) : Int) : Int) = 0 → Q (.bool false) h10)))))))) ∨ (ld1 h10 h3.next 2 = some (.bool false) ∧
    (∃ i72 : Int, ld1 h10 h.next 3 = some (.int .i64 i72) ∧
    (((i72 : Int) = 0 → ((0 : Int) ≤ 3) ∧ ((3 : Int) < 5) ∧
    (((ld1 h10 h3.next 3 = some (.bool true) ∧
    (((0 : Int) ≤ 4) ∧ ((4 : Int) < 5) ∧
    (((ld1 h10 h3.next 4 = some (.bool true) ∧
    (Q (.bool true) h10)) ∨ (ld1 h10 h3.next 4 = some (.bool false) ∧
    (∃ (p73 : Option Addr) (n74 c75 : Nat), ld1 h10 h.next 5 = some (.slice p73 n74 c75) ∧
    (((((n74 : Nat) : Int) : Int) = 0 → Q (.bool true) h10) ∧
    (¬ (((n74 : Nat) : Int) : Int) = 0 → Q (.bool false) h10)))))))) ∨ (ld1 h10 h3.next 3 = some (.bool false) ∧
    (∃ (p76 : Option Addr) (n77 c78 : Nat), ld1 h10 h.next 4 = some (.slice p76 n77 c78) ∧
    (((((n77 : Nat) : Int) : Int) = 0 → ((0 : Int) ≤ 4) ∧ ((4 : Int) < 5) ∧
    (((ld1 h10 h3.next 4 = some (.bool true) ∧
    (Q (.bool true) h10)) ∨ (ld1 h10 h3.next 4 = some (.bool false) ∧
    (∃ (p79 : Option Addr) (n80 c81 : Nat), ld1 h10 h.next 5 = some (.slice p79 n80 c81) ∧
    (((((n80 : Nat) : Int) : Int) = 0 → Q (.bool true) h10) ∧
    (¬ (((n80 : Nat) : Int) : Int) = 0 → Q (.bool false) h10))))))) ∧
    (¬ (((n77 : Nat) : Int) : Int) = 0 → Q (.bool false) h10))))))) ∧
    (¬ (i72 : Int) = 0 → Q (.bool false) h10)))))))) ∨ (ld1 h10 h3.next 1 = some (.bool false) ∧
    (∃ s82 : ByteArray, ld1 h10 h.next 2 = some (.string s82) ∧
    ((s82 = (ByteArray.mk #[]) → ((0 : Int) ≤ 2) ∧ ((2 : Int) < 5) ∧
    (((ld1 h10 h3.next 2 = some (.bool true) ∧
    (((0 : Int) ≤ 3) ∧ ((3 : Int) < 5) ∧
    (((ld1 h10 h3.next 3 = some (.bool true) ∧
    (((0 : Int) ≤ 4) ∧ ((4 : Int) < 5) ∧
    (((ld1 h10 h3.next 4 = some (.bool true) ∧
    (Q (.bool true) h10)) ∨ (ld1 h10 h3.next 4 = some (.bool false) ∧
    (∃ (p83 : Option Addr) (n84 c85 : Nat), ld1 h10 h.next 5 = some (.slice p83 n84 c85) ∧
    (((((n84 : Nat) : Int) : Int) = 0 → Q (.bool true) h10) ∧
    (¬ (((n84 : Nat) : Int) : Int) = 0 → Q (.bool false) h10)))))))) ∨ (ld1 h10 h3.next 3 = some (.bool false) ∧
    (∃ (p86 : Option Addr) (n87 c88 : Nat), ld1 h10 h.next 4 = some (.slice p86 n87 c88) ∧
    (((((n87 : Nat) : Int) : Int) = 0 → ((0 : Int) ≤ 4) ∧ ((4 : Int) < 5) ∧
    (((ld1 h10 h3.next 4 = some (.bool true) ∧
    (Q (.bool true) h10)) ∨ (ld1 h10 h3.next 4 = some (.bool false) ∧
    (∃ (p89 : Option Addr) (n90 c91 : Nat), ld1 h10 h.next 5 = some (.slice p89 n90 c91) ∧
    (((((n90 : Nat) : Int) : Int) = 0 → Q (.bool true) h10) ∧
    (¬ (((n90 : Nat) : Int) : Int) = 0 → Q (.bool false) h10))))))) ∧
    (¬ (((n87 : Nat) : Int) : Int) = 0 → Q (.bool false) h10)))))))) ∨ (ld1 h10 h3.next 2 = some (.bool false) ∧
    (∃ i92 : Int, ld1 h10 h.next 3 = some (.int .i64 i92) ∧
    (((i92 : Int) = 0 → ((0 : Int) ≤ 3) ∧ ((3 : Int) < 5) ∧
    (((ld1 h10 h3.next 3 = some (.bool true) ∧
    (((0 : Int) ≤ 4) ∧ ((4 : Int) < 5) ∧
    (((ld1 h10 h3.next 4 = some (.bool true) ∧
    (Q (.bool true) h10)) ∨ (ld1 h10 h3.next 4 = some (.bool false) ∧
    (∃ (p93 : Option Addr) (n94 c95 : Nat), ld1 h10 h.next 5 = some (.slice p93 n94 c95) ∧
    (((((n94 : Nat) : Int) : Int) = 0 → Q (.bool true) h10) ∧
    (¬ (((n94 : Nat) : Int) : Int) = 0 → Q (.bool false) h10)))))))) ∨ (ld1 h10 h3.next 3 = some (.bool false) ∧
    (∃ (p96 : Option Addr) (n97 c98 : Nat), ld1 h10 h.next 4 = some (.slice p96 n97 c98) ∧
    (((((n97 : Nat) : Int) : Int) = 0 → ((0 : Int) ≤ 4) ∧ ((4 : Int) < 5) ∧
    (((ld1 h10 h3.next 4 = some (.bool true) ∧
    (Q (.bool true) h10)) ∨ (ld1 h10 h3.next 4 = some (.bool false) ∧
    (∃ (p99 : Option Addr) (n100 c101 : Nat), ld1 h10 h.next 5 = some (.slice p99 n100 c101) ∧
    (((((n100 : Nat) : Int) : Int) = 0 → Q (.bool true) h10) ∧
    (¬ (((n100 : Nat) : Int) : Int) = 0 → Q (.bool false) h10))))))) ∧
    (¬ (((n97 : Nat) : Int) : Int) = 0 → Q (.bool false) h10))))))) ∧
    (¬ (i92 : Int) = 0 → Q (.bool false) h10))))))) ∧
    (¬ s82 = (ByteArray.mk #[]) → Q (.bool false) h10))))))) ∧
    (¬ s62 = (ByteArray.mk #[]) → Q (.bool false) h10))))))))))))))))))))))))))) :
    Wf Tryz.prog K 21 [(.agg #[(.int .i64 ia0_0), (.string sa0_1), (.string sa0_2), (.int .i64 ia0_3), (.slice pa0_4 na0_4 ca0_4), (.slice pa0_5 na0_5 ca0_5)])] h Q :=
  vcF_sound (hs := []) hk (Eq.mpr (by kernel_rfl) H)
theorem vc_aquiferref23_has {K : Xs} (hk : K 33 = none) (ia0 : Int) (h : AH) (Q : Value → AH → Prop) (H :
    ∀ h0 : AH, h0 = h.alloc (.cells ([(.bool false), (.bool false), (.bool false), (.bool false), (.bool false)] : List Value) 82 false) →
    ((ia0 : Int) = 0 → (List.length ([(.bool true), (.bool false), (.bool true), (.bool false), (.bool false)] : List Value) = 5) ∧ ∃ h1 : AH, stN h0 h.next 0 ([(.bool true), (.bool false), (.bool true), (.bool false), (.bool false)] : List Value) = some h1 ∧
    (∃ b2 : Bool, ∃ b3 : Bool, ∃ b4 : Bool, ∃ b5 : Bool, ∃ b6 : Bool, ldN h1 h.next 0 5 = some ([(.bool b2), (.bool b3), (.bool b4), (.bool b5), (.bool b6)] : List Value) ∧
    (Q (.agg #[(.bool b2), (.bool b3), (.bool b4), (.bool b5), (.bool b6)]) h1))) ∧
    (¬ (ia0 : Int) = 0 → ((ia0 : Int) = 2 → (List.length ([(.bool true), (.bool false), (.bool true), (.bool false), (.bool false)] : List Value) = 5) ∧ ∃ h7 : AH, stN h0 h.next 0 ([(.bool true), (.bool false), (.bool true), (.bool false), (.bool false)] : List Value) = some h7 ∧
    (∃ b8 : Bool, ∃ b9 : Bool, ∃ b10 : Bool, ∃ b11 : Bool, ∃ b12 : Bool, ldN h7 h.next 0 5 = some ([(.bool b8), (.bool b9), (.bool b10), (.bool b11), (.bool b12)] : List Value) ∧
    (Q (.agg #[(.bool b8), (.bool b9), (.bool b10), (.bool b11), (.bool b12)]) h7))) ∧
    (¬ (ia0 : Int) = 2 → ((ia0 : Int) = 3 → (List.length ([(.bool true), (.bool false), (.bool true), (.bool false), (.bool false)] : List Value) = 5) ∧ ∃ h13 : AH, stN h0 h.next 0 ([(.bool true), (.bool false), (.bool true), (.bool false), (.bool false)] : List Value) = some h13 ∧
    (∃ b14 : Bool, ∃ b15 : Bool, ∃ b16 : Bool, ∃ b17 : Bool, ∃ b18 : Bool, ldN h13 h.next 0 5 = some ([(.bool b14), (.bool b15), (.bool b16), (.bool b17), (.bool b18)] : List Value) ∧
    (Q (.agg #[(.bool b14), (.bool b15), (.bool b16), (.bool b17), (.bool b18)]) h13))) ∧
    (¬ (ia0 : Int) = 3 → ((ia0 : Int) = 1 → (List.length ([(.bool true), (.bool false), (.bool true), (.bool true), (.bool false)] : List Value) = 5) ∧ ∃ h19 : AH, stN h0 h.next 0 ([(.bool true), (.bool false), (.bool true), (.bool true), (.bool false)] : List Value) = some h19 ∧
    (∃ b20 : Bool, ∃ b21 : Bool, ∃ b22 : Bool, ∃ b23 : Bool, ∃ b24 : Bool, ldN h19 h.next 0 5 = some ([(.bool b20), (.bool b21), (.bool b22), (.bool b23), (.bool b24)] : List Value) ∧
    (Q (.agg #[(.bool b20), (.bool b21), (.bool b22), (.bool b23), (.bool b24)]) h19))) ∧
    (¬ (ia0 : Int) = 1 → ((ia0 : Int) = 4 → (List.length ([(.bool true), (.bool false), (.bool false), (.bool false), (.bool false)] : List Value) = 5) ∧ ∃ h25 : AH, stN h0 h.next 0 ([(.bool true), (.bool false), (.bool false), (.bool false), (.bool false)] : List Value) = some h25 ∧
    (∃ b26 : Bool, ∃ b27 : Bool, ∃ b28 : Bool, ∃ b29 : Bool, ∃ b30 : Bool, ldN h25 h.next 0 5 = some ([(.bool b26), (.bool b27), (.bool b28), (.bool b29), (.bool b30)] : List Value) ∧
    (Q (.agg #[(.bool b26), (.bool b27), (.bool b28), (.bool b29), (.bool b30)]) h25))) ∧
    (¬ (ia0 : Int) = 4 → ((ia0 : Int) = 6 → (List.length ([(.bool true), (.bool false), (.bool false), (.bool false), (.bool false)] : List Value) = 5) ∧ ∃ h31 : AH, stN h0 h.next 0 ([(.bool true), (.bool false), (.bool false), (.bool false), (.bool false)] : List Value) = some h31 ∧
    (∃ b32 : Bool, ∃ b33 : Bool, ∃ b34 : Bool, ∃ b35 : Bool, ∃ b36 : Bool, ldN h31 h.next 0 5 = some ([(.bool b32), (.bool b33), (.bool b34), (.bool b35), (.bool b36)] : List Value) ∧
    (Q (.agg #[(.bool b32), (.bool b33), (.bool b34), (.bool b35), (.bool b36)]) h31))) ∧
    (¬ (ia0 : Int) = 6 → ((ia0 : Int) = 7 → (List.length ([(.bool true), (.bool false), (.bool false), (.bool false), (.bool false)] : List Value) = 5) ∧ ∃ h37 : AH, stN h0 h.next 0 ([(.bool true), (.bool false), (.bool false), (.bool false), (.bool false)] : List Value) = some h37 ∧
    (∃ b38 : Bool, ∃ b39 : Bool, ∃ b40 : Bool, ∃ b41 : Bool, ∃ b42 : Bool, ldN h37 h.next 0 5 = some ([(.bool b38), (.bool b39), (.bool b40), (.bool b41), (.bool b42)] : List Value) ∧
    (Q (.agg #[(.bool b38), (.bool b39), (.bool b40), (.bool b41), (.bool b42)]) h37))) ∧
    (¬ (ia0 : Int) = 7 → ((ia0 : Int) = 8 → (List.length ([(.bool true), (.bool false), (.bool false), (.bool false), (.bool false)] : List Value) = 5) ∧ ∃ h43 : AH, stN h0 h.next 0 ([(.bool true), (.bool false), (.bool false), (.bool false), (.bool false)] : List Value) = some h43 ∧
    (∃ b44 : Bool, ∃ b45 : Bool, ∃ b46 : Bool, ∃ b47 : Bool, ∃ b48 : Bool, ldN h43 h.next 0 5 = some ([(.bool b44), (.bool b45), (.bool b46), (.bool b47), (.bool b48)] : List Value) ∧
    (Q (.agg #[(.bool b44), (.bool b45), (.bool b46), (.bool b47), (.bool b48)]) h43))) ∧
    (¬ (ia0 : Int) = 8 → ((ia0 : Int) = 5 → (List.length ([(.bool true), (.bool true), (.bool false), (.bool false), (.bool false)] : List Value) = 5) ∧ ∃ h49 : AH, stN h0 h.next 0 ([(.bool true), (.bool true), (.bool false), (.bool false), (.bool false)] : List Value) = some h49 ∧
    (∃ b50 : Bool, ∃ b51 : Bool, ∃ b52 : Bool, ∃ b53 : Bool, ∃ b54 : Bool, ldN h49 h.next 0 5 = some ([(.bool b50), (.bool b51), (.bool b52), (.bool b53), (.bool b54)] : List Value) ∧
    (Q (.agg #[(.bool b50), (.bool b51), (.bool b52), (.bool b53), (.bool b54)]) h49))) ∧
    (¬ (ia0 : Int) = 5 → ((ia0 : Int) = 10 → (List.length ([(.bool false), (.bool false), (.bool true), (.bool false), (.bool false)] : List Value) = 5) ∧ ∃ h55 : AH, stN h0 h.next 0 ([(.bool false), (.bool false), (.bool true), (.bool false), (.bool false)] : List Value) = some h55 ∧
    (∃ b56 : Bool, ∃ b57 : Bool, ∃ b58 : Bool, ∃ b59 : Bool, ∃ b60 : Bool, ldN h55 h.next 0 5 = some ([(.bool b56), (.bool b57), (.bool b58), (.bool b59), (.bool b60)] : List Value) ∧
    (Q (.agg #[(.bool b56), (.bool b57), (.bool b58), (.bool b59), (.bool b60)]) h55))) ∧
    (¬ (ia0 : Int) = 10 → ((ia0 : Int) = 11 → (List.length ([(.bool false), (.bool false), (.bool false), (.bool false), (.bool true)] : List Value) = 5) ∧ ∃ h61 : AH, stN h0 h.next 0 ([(.bool false), (.bool false), (.bool false), (.bool false), (.bool true)] : List Value) = some h61 ∧
    (∃ b62 : Bool, ∃ b63 : Bool, ∃ b64 : Bool, ∃ b65 : Bool, ∃ b66 : Bool, ldN h61 h.next 0 5 = some ([(.bool b62), (.bool b63), (.bool b64), (.bool b65), (.bool b66)] : List Value) ∧
    (Q (.agg #[(.bool b62), (.bool b63), (.bool b64), (.bool b65), (.bool b66)]) h61))) ∧
    (¬ (ia0 : Int) = 11 → ((ia0 : Int) = 12 → (List.length ([(.bool false), (.bool false), (.bool true), (.bool true), (.bool false)] : List Value) = 5) ∧ ∃ h67 : AH, stN h0 h.next 0 ([(.bool false), (.bool false), (.bool true), (.bool true), (.bool false)] : List Value) = some h67 ∧
    (∃ b68 : Bool, ∃ b69 : Bool, ∃ b70 : Bool, ∃ b71 : Bool, ∃ b72 : Bool, ldN h67 h.next 0 5 = some ([(.bool b68), (.bool b69), (.bool b70), (.bool b71), (.bool b72)] : List Value) ∧
    (Q (.agg #[(.bool b68), (.bool b69), (.bool b70), (.bool b71), (.bool b72)]) h67))) ∧
    (¬ (ia0 : Int) = 12 → (List.length ([(.bool false), (.bool false), (.bool false), (.bool false), (.bool false)] : List Value) = 5) ∧ ∃ h73 : AH, stN h0 h.next 0 ([(.bool false), (.bool false), (.bool false), (.bool false), (.bool false)] : List Value) = some h73 ∧
    (∃ b74 : Bool, ∃ b75 : Bool, ∃ b76 : Bool, ∃ b77 : Bool, ∃ b78 : Bool, ldN h73 h.next 0 5 = some ([(.bool b74), (.bool b75), (.bool b76), (.bool b77), (.bool b78)] : List Value) ∧
    (Q (.agg #[(.bool b74), (.bool b75), (.bool b76), (.bool b77), (.bool b78)]) h73))))))))))))))) :
    Wf Tryz.prog K 33 [(.int .i64 ia0)] h Q :=
  vcF_sound (hs := []) hk (Eq.mpr (by kernel_rfl) H)
theorem vc_aquiferref23_Same {K : Xs} (hk : K 12 = none) (ia0_0 : Int) (pa0_1 : Option Addr) (na0_1 ca0_1 : Nat) (ia1_0 : Int) (pa1_1 : Option Addr) (na1_1 ca1_1 : Nat) (h : AH) (Q : Value → AH → Prop) (H :
    ∀ h0 : AH, h0 = h.alloc (.cells ([(.int .i64 ia0_0), (.slice pa0_1 na0_1 ca0_1)] : List Value) 24 false) →
    ∀ h1 : AH, h1 = h0.alloc (.cells ([(.int .i64 ia1_0), (.slice pa1_1 na1_1 ca1_1)] : List Value) 24 false) →
    ∃ i2 : Int, ld1 h1 h.next 0 = some (.int .i64 i2) ∧
    (∃ i3 : Int, ld1 h1 h0.next 0 = some (.int .i64 i3) ∧
    (((i2 : Int) = i3 → ∃ (p4 : Option Addr) (n5 c6 : Nat), ld1 h1 h.next 1 = some (.slice p4 n5 c6) ∧
    (∃ (p7 : Option Addr) (n8 c9 : Nat), ld1 h1 h0.next 1 = some (.slice p7 n8 c9) ∧
    (((((n5 : Nat) : Int) : Int) = ((n8 : Nat) : Int) → ∃ (p10 : Option Addr) (n11 c12 : Nat), ld1 h1 h.next 1 = some (.slice p10 n11 c12) ∧
    (∃ I13 : Int → Nat → AH → Prop, (∃ n, I13 0 n h1) ∧
    ∀ (k14 : Nat) (h15 : AH) (i17 : Int), I13 i17 k14 h15 →
    ((i17 : Int) < ((n11 : Nat) : Int) → ∃ (p18 : Option Addr) (n19 c20 : Nat), ld1 h15 h.next 1 = some (.slice p18 n19 c20) ∧
    (derefP p18 fun b21 o22 => (((0 : Int) ≤ i17) ∧ ((i17 : Int) < ((n19 : Nat) : Int)) ∧
    (∃ i23 : Int, ∃ s24 : ByteArray, ∃ s25 : ByteArray, ∃ i26 : Int, ∃ (p27 : Option Addr) (n28 c29 : Nat), ∃ (p30 : Option Addr) (n31 c32 : Nat), ldN h15 b21 (o22 + Int.toNat i17 * 6) 6 = some ([(.int .i64 i23), (.string s24), (.string s25), (.int .i64 i26), (.slice p27 n28 c29), (.slice p30 n31 c32)] : List Value) ∧
    (∃ (p33 : Option Addr) (n34 c35 : Nat), ld1 h15 h0.next 1 = some (.slice p33 n34 c35) ∧
    (derefP p33 fun b36 o37 => (((0 : Int) ≤ i17) ∧ ((i17 : Int) < ((n34 : Nat) : Int)) ∧
    (∃ i38 : Int, ∃ s39 : ByteArray, ∃ s40 : ByteArray, ∃ i41 : Int, ∃ (p42 : Option Addr) (n43 c44 : Nat), ∃ (p45 : Option Addr) (n46 c47 : Nat), ldN h15 b36 (o37 + Int.toNat i17 * 6) 6 = some ([(.int .i64 i38), (.string s39), (.string s40), (.int .i64 i41), (.slice p42 n43 c44), (.slice p45 n46 c47)] : List Value) ∧
    (Wf Tryz.prog K 22 [(.agg #[(.int .i64 i23), (.string s24), (.string s25), (.int .i64 i26), (.slice p27 n28 c29), (.slice p30 n31 c32)]), (.agg #[(.int .i64 i38), (.string s39), (.string s40), (.int .i64 i41), (.slice p42 n43 c44), (.slice p45 n46 c47)])] h15 fun r48 h49 =>
    (((r48 = (.bool true) ∧
    (∀ i50 : Int, i50 = IntKind.wrap .i64 (i17 + 1) → ∃ j16, j16 < k14 ∧ I13 i50 j16 h49)) ∨ (r48 = (.bool false) ∧
    (Q (.bool false) h49))))))))))))) ∧
    (¬ (i17 : Int) < ((n11 : Nat) : Int) → Q (.bool true) h15))) ∧
    (¬ (((n5 : Nat) : Int) : Int) = ((n8 : Nat) : Int) → Q (.bool false) h1)))) ∧
    (¬ (i2 : Int) = i3 → Q (.bool false) h1)))) :
    Wf Tryz.prog K 12 [(.agg #[(.int .i64 ia0_0), (.slice pa0_1 na0_1 ca0_1)]), (.agg #[(.int .i64 ia1_0), (.slice pa1_1 na1_1 ca1_1)])] h Q :=
  vcF_sound (hs := [(4, [(23, .int .i64 0)])]) hk (Eq.mpr (by kernel_rfl) H)
theorem vc_aquiferref23_same {K : Xs} (hk : K 22 = none) (ia0_0 : Int) (sa0_1 : ByteArray) (sa0_2 : ByteArray) (ia0_3 : Int) (pa0_4 : Option Addr) (na0_4 ca0_4 : Nat) (pa0_5 : Option Addr) (na0_5 ca0_5 : Nat) (ia1_0 : Int) (sa1_1 : ByteArray) (sa1_2 : ByteArray) (ia1_3 : Int) (pa1_4 : Option Addr) (na1_4 ca1_4 : Nat) (pa1_5 : Option Addr) (na1_5 ca1_5 : Nat) (h : AH) (Q : Value → AH → Prop) (H :
    ∀ h0 : AH, h0 = h.alloc (.cells ([(.int .i64 ia0_0), (.string sa0_1), (.string sa0_2), (.int .i64 ia0_3), (.slice pa0_4 na0_4 ca0_4), (.slice pa0_5 na0_5 ca0_5)] : List Value) 43 false) →
    ∀ h1 : AH, h1 = h0.alloc (.cells ([(.int .i64 ia1_0), (.string sa1_1), (.string sa1_2), (.int .i64 ia1_3), (.slice pa1_4 na1_4 ca1_4), (.slice pa1_5 na1_5 ca1_5)] : List Value) 43 false) →
    ∃ i2 : Int, ld1 h1 h.next 0 = some (.int .i64 i2) ∧
    (∃ i3 : Int, ld1 h1 h0.next 0 = some (.int .i64 i3) ∧
    (((i2 : Int) = i3 → ∃ s4 : ByteArray, ld1 h1 h.next 1 = some (.string s4) ∧
    (∃ s5 : ByteArray, ld1 h1 h0.next 1 = some (.string s5) ∧
    ((s4 = s5 → ∃ s6 : ByteArray, ld1 h1 h.next 2 = some (.string s6) ∧
    (∃ s7 : ByteArray, ld1 h1 h0.next 2 = some (.string s7) ∧
    ((s6 = s7 → ∃ i8 : Int, ld1 h1 h.next 3 = some (.int .i64 i8) ∧
    (∃ i9 : Int, ld1 h1 h0.next 3 = some (.int .i64 i9) ∧
    (((i8 : Int) = i9 → ∃ (p10 : Option Addr) (n11 c12 : Nat), ld1 h1 h.next 4 = some (.slice p10 n11 c12) ∧
    (∃ s13 : ByteArray, aConvert Tryz.prog h1 26 9 (.slice p10 n11 c12) = some (.string s13, h1) ∧
    (∃ (p14 : Option Addr) (n15 c16 : Nat), ld1 h1 h0.next 4 = some (.slice p14 n15 c16) ∧
    (∃ s17 : ByteArray, aConvert Tryz.prog h1 26 9 (.slice p14 n15 c16) = some (.string s17, h1) ∧
    ((s13 = s17 → ∃ (p18 : Option Addr) (n19 c20 : Nat), ld1 h1 h.next 5 = some (.slice p18 n19 c20) ∧
    (∃ (p21 : Option Addr) (n22 c23 : Nat), ld1 h1 h0.next 5 = some (.slice p21 n22 c23) ∧
    (((((n19 : Nat) : Int) : Int) = ((n22 : Nat) : Int) → ∃ (p24 : Option Addr) (n25 c26 : Nat), ld1 h1 h.next 5 = some (.slice p24 n25 c26) ∧
    (∃ I27 : Int → Nat → AH → Prop, (∃ n, I27 0 n h1) ∧
    ∀ (k28 : Nat) (h29 : AH) (i31 : Int), I27 i31 k28 h29 →
    ((i31 : Int) < ((n25 : Nat) : Int) → ∃ (p32 : Option Addr) (n33 c34 : Nat), ld1 h29 h.next 5 = some (.slice p32 n33 c34) ∧
    (derefP p32 fun b35 o36 => (((0 : Int) ≤ i31) ∧ ((i31 : Int) < ((n33 : Nat) : Int)) ∧
    (((ld1 h29 b35 (o36 + Int.toNat i31 * 1) = some (.bool true) ∧
    (∃ (p37 : Option Addr) (n38 c39 : Nat), ld1 h29 h0.next 5 = some (.slice p37 n38 c39) ∧
    (derefP p37 fun b40 o41 => (((0 : Int) ≤ i31) ∧ ((i31 : Int) < ((n38 : Nat) : Int)) ∧
    (((ld1 h29 b40 (o41 + Int.toNat i31 * 1) = some (.bool true) ∧
    (∀ i42 : Int, i42 = IntKind.wrap .i64 (i31 + 1) → ∃ j30, j30 < k28 ∧ I27 i42 j30 h29)) ∨ (ld1 h29 b40 (o41 + Int.toNat i31 * 1) = some (.bool false) ∧
    (Q (.bool false) h29)))))))) ∨ (ld1 h29 b35 (o36 + Int.toNat i31 * 1) = some (.bool false) ∧
    (∃ (p43 : Option Addr) (n44 c45 : Nat), ld1 h29 h0.next 5 = some (.slice p43 n44 c45) ∧
    (derefP p43 fun b46 o47 => (((0 : Int) ≤ i31) ∧ ((i31 : Int) < ((n44 : Nat) : Int)) ∧
    (((ld1 h29 b46 (o47 + Int.toNat i31 * 1) = some (.bool true) ∧
    (Q (.bool false) h29)) ∨ (ld1 h29 b46 (o47 + Int.toNat i31 * 1) = some (.bool false) ∧
    (∀ i48 : Int, i48 = IntKind.wrap .i64 (i31 + 1) → ∃ j30, j30 < k28 ∧ I27 i48 j30 h29))))))))))))) ∧
    (¬ (i31 : Int) < ((n25 : Nat) : Int) → Q (.bool true) h29))) ∧
    (¬ (((n19 : Nat) : Int) : Int) = ((n22 : Nat) : Int) → Q (.bool false) h1)))) ∧
    (¬ s13 = s17 → Q (.bool false) h1)))))) ∧
    (¬ (i8 : Int) = i9 → Q (.bool false) h1)))) ∧
    (¬ s6 = s7 → Q (.bool false) h1)))) ∧
    (¬ s4 = s5 → Q (.bool false) h1)))) ∧
    (¬ (i2 : Int) = i3 → Q (.bool false) h1)))) :
    Wf Tryz.prog K 22 [(.agg #[(.int .i64 ia0_0), (.string sa0_1), (.string sa0_2), (.int .i64 ia0_3), (.slice pa0_4 na0_4 ca0_4), (.slice pa0_5 na0_5 ca0_5)]), (.agg #[(.int .i64 ia1_0), (.string sa1_1), (.string sa1_2), (.int .i64 ia1_3), (.slice pa1_4 na1_4 ca1_4), (.slice pa1_5 na1_5 ca1_5)])] h Q :=
  vcF_sound (hs := [(4, [(53, .int .i64 0)])]) hk (Eq.mpr (by kernel_rfl) H)
theorem vc_aquiferref23_Read {K : Xs} (hk : K 14 = none) (pa0 : Option Addr) (na0 ca0 : Nat) (h : AH) (Q : Value → AH → Prop) (H :
    ∀ h0 : AH, h0 = h.alloc (.cells ([(.int .i64 0), (.slice none 0 0)] : List Value) 24 false) →
    Wf Tryz.prog K 27 [(.slice pa0 na0 ca0)] h0 fun r1 h2 =>
    (∃ (p3 : Option Addr) (n4 c5 : Nat), ∃ i6 : Int, r1 = (.tuple #[(.slice p3 n4 c5), (.int .i64 i6)]) ∧
    (((i6 : Int) = 0 → ((((n4 : Nat) : Int) : Int) < 1 → (List.length ([(.int .i64 0), (.slice none 0 0)] : List Value) = 2) ∧ ∃ h7 : AH, stN h2 h.next 0 ([(.int .i64 0), (.slice none 0 0)] : List Value) = some h7 ∧
    (∃ i8 : Int, ∃ (p9 : Option Addr) (n10 c11 : Nat), ldN h7 h.next 0 2 = some ([(.int .i64 i8), (.slice p9 n10 c11)] : List Value) ∧
    (Q (.tuple #[(.agg #[(.int .i64 i8), (.slice p9 n10 c11)]), (.int .i64 231)]) h7))) ∧
    (¬ (((n4 : Nat) : Int) : Int) < 1 → ((201 : Int) < ((n4 : Nat) : Int) → (List.length ([(.int .i64 0), (.slice none 0 0)] : List Value) = 2) ∧ ∃ h12 : AH, stN h2 h.next 0 ([(.int .i64 0), (.slice none 0 0)] : List Value) = some h12 ∧
    (∃ i13 : Int, ∃ (p14 : Option Addr) (n15 c16 : Nat), ldN h12 h.next 0 2 = some ([(.int .i64 i13), (.slice p14 n15 c16)] : List Value) ∧
    (Q (.tuple #[(.agg #[(.int .i64 i13), (.slice p14 n15 c16)]), (.int .i64 231)]) h12))) ∧
    (¬ (201 : Int) < ((n4 : Nat) : Int) → derefP p3 fun b17 o18 => (((0 : Int) ≤ 0) ∧ ((0 : Int) < ((n4 : Nat) : Int)) ∧
    (∃ (p19 : Option Addr) (n20 c21 : Nat), ld1 h2 b17 o18 = some (.slice p19 n20 c21) ∧
    (((((n20 : Nat) : Int) : Int) = 2 → derefP p3 fun b22 o23 => (((0 : Int) ≤ 0) ∧ ((0 : Int) < ((n4 : Nat) : Int)) ∧
    (∃ (p24 : Option Addr) (n25 c26 : Nat), ld1 h2 b22 o23 = some (.slice p24 n25 c26) ∧
    (Wf Tryz.prog K 28 [(.slice p24 n25 c26)] h2 fun r27 h28 =>
    (∃ i29 : Int, r27 = (.int .u64 i29) ∧
    (∀ i30 : Int, i30 = IntKind.wrap .i64 i29 → ∀ h31 : AH, h31 = h28.alloc (.cells ([(.int .i64 0), (.slice none 0 0)] : List Value) 24 false) →
    (List.length ([(.int .i64 i30), (.slice none 0 0)] : List Value) = 2) ∧ ∃ h32 : AH, stN h31 h28.next 0 ([(.int .i64 i30), (.slice none 0 0)] : List Value) = some h32 ∧
    (∃ I33 : Int → Nat → AH → Prop, (∃ n, I33 1 n h32) ∧
    ∀ (k34 : Nat) (h35 : AH) (i37 : Int), I33 i37 k34 h35 →
    ((i37 : Int) < ((n4 : Nat) : Int) → derefP p3 fun b38 o39 => (((0 : Int) ≤ i37) ∧ ((i37 : Int) < ((n4 : Nat) : Int)) ∧
    (∃ (p40 : Option Addr) (n41 c42 : Nat), ld1 h35 b38 (o39 + Int.toNat i37 * 1) = some (.slice p40 n41 c42) ∧
    (Wf Tryz.prog K 27 [(.slice p40 n41 c42)] h35 fun r43 h44 =>
    (∃ (p45 : Option Addr) (n46 c47 : Nat), ∃ i48 : Int, r43 = (.tuple #[(.slice p45 n46 c47), (.int .i64 i48)]) ∧
    (((i48 : Int) = 0 → ((((n46 : Nat) : Int) : Int) = 5 → derefP p45 fun b49 o50 => (((0 : Int) ≤ 0) ∧ ((0 : Int) < ((n46 : Nat) : Int)) ∧
    (∃ (p51 : Option Addr) (n52 c53 : Nat), ld1 h44 b49 o50 = some (.slice p51 n52 c53) ∧
    (((((n52 : Nat) : Int) : Int) = 3 → derefP p45 fun b54 o55 => (((0 : Int) ≤ 0) ∧ ((0 : Int) < ((n46 : Nat) : Int)) ∧
    (∃ (p56 : Option Addr) (n57 c58 : Nat), ld1 h44 b54 o55 = some (.slice p56 n57 c58) ∧
    (∃ (p59 : Option Addr) (n60 c61 : Nat), aSlice Tryz.prog h44 26 (.slice p56 n57 c58) (some (.int .i64 1)) none none = some (.slice p59 n60 c61) ∧
    (Wf Tryz.prog K 28 [(.slice p59 n60 c61)] h44 fun r62 h63 =>
    (∃ i64 : Int, r62 = (.int .u64 i64) ∧
    (derefP p45 fun b65 o66 => (((0 : Int) ≤ 0) ∧ ((0 : Int) < ((n46 : Nat) : Int)) ∧
    (∃ (p67 : Option Addr) (n68 c69 : Nat), ld1 h63 b65 o66 = some (.slice p67 n68 c69) ∧
    (derefP p67 fun b70 o71 => (((0 : Int) ≤ 0) ∧ ((0 : Int) < ((n68 : Nat) : Int)) ∧
    (∃ i72 : Int, ld1 h63 b70 o71 = some (.int .u8 i72) ∧
    (∀ i73 : Int, i73 = IntKind.wrap .i64 i72 → ∀ i74 : Int, i74 = IntKind.wrap .i64 i64 → derefP p45 fun b75 o76 => (((0 : Int) ≤ 1) ∧ ((1 : Int) < ((n46 : Nat) : Int)) ∧
    (∃ (p77 : Option Addr) (n78 c79 : Nat), ld1 h63 b75 (o76 + 1) = some (.slice p77 n78 c79) ∧
    (∃ s80 : ByteArray, aConvert Tryz.prog h63 26 9 (.slice p77 n78 c79) = some (.string s80, h63) ∧
    (derefP p45 fun b81 o82 => (((0 : Int) ≤ 2) ∧ ((2 : Int) < ((n46 : Nat) : Int)) ∧
    (∃ (p83 : Option Addr) (n84 c85 : Nat), ld1 h63 b81 (o82 + 2) = some (.slice p83 n84 c85) ∧
    (∃ s86 : ByteArray, aConvert Tryz.prog h63 26 9 (.slice p83 n84 c85) = some (.string s86, h63) ∧
    (derefP p45 fun b87 o88 => (((0 : Int) ≤ 3) ∧ ((3 : Int) < ((n46 : Nat) : Int)) ∧
    (∃ (p89 : Option Addr) (n90 c91 : Nat), ld1 h63 b87 (o88 + 3) = some (.slice p89 n90 c91) ∧
    (∀ h92 : AH, h92 = h63.alloc (.cells ([(.int .i64 0), (.string (ByteArray.mk #[])), (.string (ByteArray.mk #[])), (.int .i64 0), (.slice none 0 0), (.slice none 0 0)] : List Value) 43 false) →
    (List.length ([(.int .i64 i73), (.string s80), (.string s86), (.int .i64 i74), (.slice p89 n90 c91), (.slice none 0 0)] : List Value) = 6) ∧ ∃ h93 : AH, stN h92 h63.next 0 ([(.int .i64 i73), (.string s80), (.string s86), (.int .i64 i74), (.slice p89 n90 c91), (.slice none 0 0)] : List Value) = some h93 ∧
    ((ld1 h44 b65 o66 = some (.slice p67 n68 c69)) ∧
    ((ld1 h63 b65 o66 = some (.slice p67 n68 c69)) ∧
    ((ld1 h44 b70 o71 = some (.int .u8 i72)) ∧
    ((ld1 h63 b70 o71 = some (.int .u8 i72)) ∧
    ((ld1 h44 b75 (o76 + 1) = some (.slice p77 n78 c79)) ∧
    ((ld1 h63 b75 (o76 + 1) = some (.slice p77 n78 c79)) ∧
    ((∃ h94, aConvert Tryz.prog h44 26 9 (.slice p77 n78 c79) = some ((.string s80), h94)) ∧
    ((∃ h95, aConvert Tryz.prog h63 26 9 (.slice p77 n78 c79) = some ((.string s80), h95)) ∧
    ((ld1 h44 b81 (o82 + 2) = some (.slice p83 n84 c85)) ∧
    ((ld1 h63 b81 (o82 + 2) = some (.slice p83 n84 c85)) ∧
    ((∃ h96, aConvert Tryz.prog h44 26 9 (.slice p83 n84 c85) = some ((.string s86), h96)) ∧
    ((∃ h97, aConvert Tryz.prog h63 26 9 (.slice p83 n84 c85) = some ((.string s86), h97)) ∧
    ((ld1 h44 b87 (o88 + 3) = some (.slice p89 n90 c91)) ∧
    ((ld1 h63 b87 (o88 + 3) = some (.slice p89 n90 c91)) ∧
    (∃ i98 : Int, ld1 h93 h63.next 3 = some (.int .i64 i98) ∧
    (((i98 : Int) = 65535 → ∃ h99 : AH, st1 h93 h63.next 3 (.int .i64 (-1)) = some h99 ∧
    (derefP p45 fun b100 o101 => (((0 : Int) ≤ 4) ∧ ((4 : Int) < ((n46 : Nat) : Int)) ∧
    (∃ (p102 : Option Addr) (n103 c104 : Nat), ld1 h99 b100 (o101 + 4) = some (.slice p102 n103 c104) ∧
    (∃ I105 : Int → Nat → AH → Prop, (∃ n, I105 0 n h99) ∧
    ∀ (k106 : Nat) (h107 : AH) (i109 : Int), I105 i109 k106 h107 →
    ((i109 : Int) < ((n103 : Nat) : Int) → derefP p102 fun b110 o111 => (((0 : Int) ≤ i109) ∧ ((i109 : Int) < ((n103 : Nat) : Int)) ∧
    (∃ i112 : Int, ld1 h107 b110 (o111 + Int.toNat i109 * 1) = some (.int .u8 i112) ∧
    (∃ (p113 : Option Addr) (n114 c115 : Nat), ld1 h107 h63.next 5 = some (.slice p113 n114 c115) ∧
    (((0 : Int) < i112 → ∀ h116 : AH, h116 = h107.alloc (.cells ([(.bool true)] : List Value) 4 false) →
    ∃ (p117 : Option Addr) (n118 c119 : Nat) (h120 : AH), aBuiltin Tryz.prog h116 .append #[41, 41] [(.slice p113 n114 c115), (.slice (some ⟨h107.next, 0, none⟩) 1 1)] = some (.slice p117 n118 c119, h120) ∧
    (∃ h121 : AH, st1 h120 h63.next 5 (.slice p117 n118 c119) = some h121 ∧
    (∀ i122 : Int, i122 = IntKind.wrap .i64 (i109 + 1) → ∃ j108, j108 < k106 ∧ I105 i122 j108 h121))) ∧
    (¬ (0 : Int) < i112 → ∀ h123 : AH, h123 = h107.alloc (.cells ([(.bool false)] : List Value) 4 false) →
    ∃ (p124 : Option Addr) (n125 c126 : Nat) (h127 : AH), aBuiltin Tryz.prog h123 .append #[41, 41] [(.slice p113 n114 c115), (.slice (some ⟨h107.next, 0, none⟩) 1 1)] = some (.slice p124 n125 c126, h127) ∧
    (∃ h128 : AH, st1 h127 h63.next 5 (.slice p124 n125 c126) = some h128 ∧
    (∀ i129 : Int, i129 = IntKind.wrap .i64 (i109 + 1) → ∃ j108, j108 < k106 ∧ I105 i129 j108 h128)))))))) ∧
    (¬ (i109 : Int) < ((n103 : Nat) : Int) → ∃ (p130 : Option Addr) (n131 c132 : Nat), ld1 h107 h28.next 1 = some (.slice p130 n131 c132) ∧
    (∃ i133 : Int, ∃ s134 : ByteArray, ∃ s135 : ByteArray, ∃ i136 : Int, ∃ (p137 : Option Addr) (n138 c139 : Nat), ∃ (p140 : Option Addr) (n141 c142 : Nat), ldN h107 h63.next 0 6 = some ([(.int .i64 i133), (.string s134), (.string s135), (.int .i64 i136), (.slice p137 n138 c139), (.slice p140 n141 c142)] : List Value) ∧
    (∀ h143 : AH, h143 = h107.alloc (.cells ([(.int .i64 i133), (.string s134), (.string s135), (.int .i64 i136), (.slice p137 n138 c139), (.slice p140 n141 c142)] : List Value) 43 false) →
    ∃ (p144 : Option Addr) (n145 c146 : Nat) (h147 : AH), aBuiltin Tryz.prog h143 .append #[22, 22] [(.slice p130 n131 c132), (.slice (some ⟨h107.next, 0, none⟩) 1 1)] = some (.slice p144 n145 c146, h147) ∧
    (∃ h148 : AH, st1 h147 h28.next 1 (.slice p144 n145 c146) = some h148 ∧
    (∀ i149 : Int, i149 = IntKind.wrap .i64 (i37 + 1) → ∃ j36, j36 < k34 ∧ I33 i149 j36 h148)))))))))) ∧
    (¬ (i98 : Int) = 65535 → derefP p45 fun b150 o151 => (((0 : Int) ≤ 4) ∧ ((4 : Int) < ((n46 : Nat) : Int)) ∧
    (∃ (p152 : Option Addr) (n153 c154 : Nat), ld1 h93 b150 (o151 + 4) = some (.slice p152 n153 c154) ∧
    (∃ I155 : Int → Nat → AH → Prop, (∃ n, I155 0 n h93) ∧
    ∀ (k156 : Nat) (h157 : AH) (i159 : Int), I155 i159 k156 h157 →
    ((i159 : Int) < ((n153 : Nat) : Int) → derefP p152 fun b160 o161 => (((0 : Int) ≤ i159) ∧ ((i159 : Int) < ((n153 : Nat) : Int)) ∧
    (∃ i162 : Int, ld1 h157 b160 (o161 + Int.toNat i159 * 1) = some (.int .u8 i162) ∧
    (∃ (p163 : Option Addr) (n164 c165 : Nat), ld1 h157 h63.next 5 = some (.slice p163 n164 c165) ∧
    (((0 : Int) < i162 → ∀ h166 : AH, h166 = h157.alloc (.cells ([(.bool true)] : List Value) 4 false) →
    ∃ (p167 : Option Addr) (n168 c169 : Nat) (h170 : AH), aBuiltin Tryz.prog h166 .append #[41, 41] [(.slice p163 n164 c165), (.slice (some ⟨h157.next, 0, none⟩) 1 1)] = some (.slice p167 n168 c169, h170) ∧
    (∃ h171 : AH, st1 h170 h63.next 5 (.slice p167 n168 c169) = some h171 ∧
    (∀ i172 : Int, i172 = IntKind.wrap .i64 (i159 + 1) → ∃ j158, j158 < k156 ∧ I155 i172 j158 h171))) ∧
    (¬ (0 : Int) < i162 → ∀ h173 : AH, h173 = h157.alloc (.cells ([(.bool false)] : List Value) 4 false) →
    ∃ (p174 : Option Addr) (n175 c176 : Nat) (h177 : AH), aBuiltin Tryz.prog h173 .append #[41, 41] [(.slice p163 n164 c165), (.slice (some ⟨h157.next, 0, none⟩) 1 1)] = some (.slice p174 n175 c176, h177) ∧
    (∃ h178 : AH, st1 h177 h63.next 5 (.slice p174 n175 c176) = some h178 ∧
    (∀ i179 : Int, i179 = IntKind.wrap .i64 (i159 + 1) → ∃ j158, j158 < k156 ∧ I155 i179 j158 h178)))))))) ∧
    (¬ (i159 : Int) < ((n153 : Nat) : Int) → ∃ (p180 : Option Addr) (n181 c182 : Nat), ld1 h157 h28.next 1 = some (.slice p180 n181 c182) ∧
    (∃ i183 : Int, ∃ s184 : ByteArray, ∃ s185 : ByteArray, ∃ i186 : Int, ∃ (p187 : Option Addr) (n188 c189 : Nat), ∃ (p190 : Option Addr) (n191 c192 : Nat), ldN h157 h63.next 0 6 = some ([(.int .i64 i183), (.string s184), (.string s185), (.int .i64 i186), (.slice p187 n188 c189), (.slice p190 n191 c192)] : List Value) ∧
    (∀ h193 : AH, h193 = h157.alloc (.cells ([(.int .i64 i183), (.string s184), (.string s185), (.int .i64 i186), (.slice p187 n188 c189), (.slice p190 n191 c192)] : List Value) 43 false) →
    ∃ (p194 : Option Addr) (n195 c196 : Nat) (h197 : AH), aBuiltin Tryz.prog h193 .append #[22, 22] [(.slice p180 n181 c182), (.slice (some ⟨h157.next, 0, none⟩) 1 1)] = some (.slice p194 n195 c196, h197) ∧
    (∃ h198 : AH, st1 h197 h28.next 1 (.slice p194 n195 c196) = some h198 ∧
    (∀ i199 : Int, i199 = IntKind.wrap .i64 (i37 + 1) → ∃ j36, j36 < k34 ∧ I33 i199 j36 h198))))))))))))))))))))))))))))))))))))))))))))))))) ∧
    (¬ (((n52 : Nat) : Int) : Int) = 3 → (List.length ([(.int .i64 0), (.slice none 0 0)] : List Value) = 2) ∧ ∃ h200 : AH, stN h44 h.next 0 ([(.int .i64 0), (.slice none 0 0)] : List Value) = some h200 ∧
    (∃ i201 : Int, ∃ (p202 : Option Addr) (n203 c204 : Nat), ldN h200 h.next 0 2 = some ([(.int .i64 i201), (.slice p202 n203 c204)] : List Value) ∧
    (Q (.tuple #[(.agg #[(.int .i64 i201), (.slice p202 n203 c204)]), (.int .i64 231)]) h200))))))) ∧
    (¬ (((n46 : Nat) : Int) : Int) = 5 → (List.length ([(.int .i64 0), (.slice none 0 0)] : List Value) = 2) ∧ ∃ h205 : AH, stN h44 h.next 0 ([(.int .i64 0), (.slice none 0 0)] : List Value) = some h205 ∧
    (∃ i206 : Int, ∃ (p207 : Option Addr) (n208 c209 : Nat), ldN h205 h.next 0 2 = some ([(.int .i64 i206), (.slice p207 n208 c209)] : List Value) ∧
    (Q (.tuple #[(.agg #[(.int .i64 i206), (.slice p207 n208 c209)]), (.int .i64 231)]) h205)))) ∧
    (¬ (i48 : Int) = 0 → (List.length ([(.int .i64 0), (.slice none 0 0)] : List Value) = 2) ∧ ∃ h210 : AH, stN h44 h.next 0 ([(.int .i64 0), (.slice none 0 0)] : List Value) = some h210 ∧
    (∃ i211 : Int, ∃ (p212 : Option Addr) (n213 c214 : Nat), ldN h210 h.next 0 2 = some ([(.int .i64 i211), (.slice p212 n213 c214)] : List Value) ∧
    (Q (.tuple #[(.agg #[(.int .i64 i211), (.slice p212 n213 c214)]), (.int .i64 231)]) h210))))))))) ∧
    (¬ (i37 : Int) < ((n4 : Nat) : Int) → ∃ i215 : Int, ∃ (p216 : Option Addr) (n217 c218 : Nat), ldN h35 h28.next 0 2 = some ([(.int .i64 i215), (.slice p216 n217 c218)] : List Value) ∧
    (Wf Tryz.prog K 8 [(.agg #[(.int .i64 i215), (.slice p216 n217 c218)])] h35 fun r219 h220 =>
    (∃ (p221 : Option Addr) (n222 c223 : Nat), ∃ i224 : Int, r219 = (.tuple #[(.slice p221 n222 c223), (.int .i64 i224)]) ∧
    (((i224 : Int) = 0 → ∃ s225 : ByteArray, aConvert Tryz.prog h220 26 9 (.slice p221 n222 c223) = some (.string s225, h220) ∧
    (∃ s226 : ByteArray, aConvert Tryz.prog h220 26 9 (.slice pa0 na0 ca0) = some (.string s226, h220) ∧
    ((s225 = s226 → ∃ i227 : Int, ∃ (p228 : Option Addr) (n229 c230 : Nat), ldN h220 h28.next 0 2 = some ([(.int .i64 i227), (.slice p228 n229 c230)] : List Value) ∧
    ((List.length ([(.int .i64 i227), (.slice p228 n229 c230)] : List Value) = 2) ∧ ∃ h231 : AH, stN h220 h.next 0 ([(.int .i64 i227), (.slice p228 n229 c230)] : List Value) = some h231 ∧
    (∃ i232 : Int, ∃ (p233 : Option Addr) (n234 c235 : Nat), ldN h231 h.next 0 2 = some ([(.int .i64 i232), (.slice p233 n234 c235)] : List Value) ∧
    (Q (.tuple #[(.agg #[(.int .i64 i232), (.slice p233 n234 c235)]), (.int .i64 0)]) h231)))) ∧
    (¬ s225 = s226 → (List.length ([(.int .i64 0), (.slice none 0 0)] : List Value) = 2) ∧ ∃ h236 : AH, stN h220 h.next 0 ([(.int .i64 0), (.slice none 0 0)] : List Value) = some h236 ∧
    (∃ i237 : Int, ∃ (p238 : Option Addr) (n239 c240 : Nat), ldN h236 h.next 0 2 = some ([(.int .i64 i237), (.slice p238 n239 c240)] : List Value) ∧
    (Q (.tuple #[(.agg #[(.int .i64 i237), (.slice p238 n239 c240)]), (.int .i64 231)]) h236)))))) ∧
    (¬ (i224 : Int) = 0 → (List.length ([(.int .i64 0), (.slice none 0 0)] : List Value) = 2) ∧ ∃ h241 : AH, stN h220 h.next 0 ([(.int .i64 0), (.slice none 0 0)] : List Value) = some h241 ∧
    (∃ i242 : Int, ∃ (p243 : Option Addr) (n244 c245 : Nat), ldN h241 h.next 0 2 = some ([(.int .i64 i242), (.slice p243 n244 c245)] : List Value) ∧
    (Q (.tuple #[(.agg #[(.int .i64 i242), (.slice p243 n244 c245)]), (.int .i64 231)]) h241)))))))))))))) ∧
    (¬ (((n20 : Nat) : Int) : Int) = 2 → (List.length ([(.int .i64 0), (.slice none 0 0)] : List Value) = 2) ∧ ∃ h246 : AH, stN h2 h.next 0 ([(.int .i64 0), (.slice none 0 0)] : List Value) = some h246 ∧
    (∃ i247 : Int, ∃ (p248 : Option Addr) (n249 c250 : Nat), ldN h246 h.next 0 2 = some ([(.int .i64 i247), (.slice p248 n249 c250)] : List Value) ∧
    (Q (.tuple #[(.agg #[(.int .i64 i247), (.slice p248 n249 c250)]), (.int .i64 231)]) h246))))))))) ∧
    (¬ (i6 : Int) = 0 → (List.length ([(.int .i64 0), (.slice none 0 0)] : List Value) = 2) ∧ ∃ h251 : AH, stN h2 h.next 0 ([(.int .i64 0), (.slice none 0 0)] : List Value) = some h251 ∧
    (∃ i252 : Int, ∃ (p253 : Option Addr) (n254 c255 : Nat), ldN h251 h.next 0 2 = some ([(.int .i64 i252), (.slice p253 n254 c255)] : List Value) ∧
    (Q (.tuple #[(.agg #[(.int .i64 i252), (.slice p253 n254 c255)]), (.int .i64 231)]) h251)))))) :
    Wf Tryz.prog K 14 [(.slice pa0 na0 ca0)] h Q :=
  vcF_sound (hs := [(6, [(7, .int .i64 0)]), (15, [(107, .int .i64 0)])]) hk (Eq.mpr (by kernel_rfl) H)
theorem vc_aquiferref02_Join {K : Xs} (hk : K 18 = none) (pa0 : Option Addr) (na0 ca0 : Nat) (h : AH) (Q : Value → AH → Prop) (H :
    ((65535 : Int) < ((na0 : Nat) : Int) → Q (.tuple #[(.slice none 0 0), (.int .i64 21)]) h) ∧
    (¬ (65535 : Int) < ((na0 : Nat) : Int) → ∀ i0 : Int, i0 = IntKind.wrap .u64 ((na0 : Nat) : Int) → Wf Tryz.prog K 30 [(.int .u64 i0), (.int .i64 2)] h fun r1 h2 =>
    (∃ (p3 : Option Addr) (n4 c5 : Nat), ((r1 = (.tuple #[(.slice p3 n4 c5), (.bool true)]) ∧
    (∃ I6 : Option Addr → Nat → Nat → Int → Nat → AH → Prop, (∃ n, I6 p3 n4 c5 0 n h2) ∧
    ∀ (k7 : Nat) (h8 : AH) (p10 : Option Addr) (n11 : Nat) (c12 : Nat) (i13 : Int), I6 p10 n11 c12 i13 k7 h8 →
    ((i13 : Int) < ((na0 : Nat) : Int) → derefP pa0 fun b14 o15 => (((0 : Int) ≤ i13) ∧ ((i13 : Int) < ((na0 : Nat) : Int)) ∧
    (∃ (p16 : Option Addr) (n17 c18 : Nat), ld1 h8 b14 (o15 + Int.toNat i13 * 1) = some (.slice p16 n17 c18) ∧
    (((65535 : Int) < ((n17 : Nat) : Int) → Q (.tuple #[(.slice none 0 0), (.int .i64 21)]) h8) ∧
    (¬ (65535 : Int) < ((n17 : Nat) : Int) → ∀ i19 : Int, i19 = IntKind.wrap .u64 ((n17 : Nat) : Int) → Wf Tryz.prog K 30 [(.int .u64 i19), (.int .i64 2)] h8 fun r20 h21 =>
    (∃ (p22 : Option Addr) (n23 c24 : Nat), ((r20 = (.tuple #[(.slice p22 n23 c24), (.bool true)]) ∧
    (∃ (p25 : Option Addr) (n26 c27 : Nat) (h28 : AH), aBuiltin Tryz.prog h21 .append #[26, 26] [(.slice p10 n11 c12), (.slice p22 n23 c24)] = some (.slice p25 n26 c27, h28) ∧
    (∃ (p29 : Option Addr) (n30 c31 : Nat) (h32 : AH), aBuiltin Tryz.prog h28 .append #[26, 26] [(.slice p25 n26 c27), (.slice p16 n17 c18)] = some (.slice p29 n30 c31, h32) ∧
    (∀ i33 : Int, i33 = IntKind.wrap .i64 (i13 + 1) → ∃ j9, j9 < k7 ∧ I6 p29 n30 c31 i33 j9 h32)))) ∨ (r20 = (.tuple #[(.slice p22 n23 c24), (.bool false)]) ∧
    (∃ (p34 : Option Addr) (n35 c36 : Nat) (h37 : AH), aBuiltin Tryz.prog h21 .append #[26, 26] [(.slice p10 n11 c12), (.slice p22 n23 c24)] = some (.slice p34 n35 c36, h37) ∧
    (∃ (p38 : Option Addr) (n39 c40 : Nat) (h41 : AH), aBuiltin Tryz.prog h37 .append #[26, 26] [(.slice p34 n35 c36), (.slice p16 n17 c18)] = some (.slice p38 n39 c40, h41) ∧
    (∀ i42 : Int, i42 = IntKind.wrap .i64 (i13 + 1) → ∃ j9, j9 < k7 ∧ I6 p38 n39 c40 i42 j9 h41))))))))))) ∧
    (¬ (i13 : Int) < ((na0 : Nat) : Int) → Q (.tuple #[(.slice p10 n11 c12), (.int .i64 0)]) h8))) ∨ (r1 = (.tuple #[(.slice p3 n4 c5), (.bool false)]) ∧
    (∃ I43 : Option Addr → Nat → Nat → Int → Nat → AH → Prop, (∃ n, I43 p3 n4 c5 0 n h2) ∧
    ∀ (k44 : Nat) (h45 : AH) (p47 : Option Addr) (n48 : Nat) (c49 : Nat) (i50 : Int), I43 p47 n48 c49 i50 k44 h45 →
    ((i50 : Int) < ((na0 : Nat) : Int) → derefP pa0 fun b51 o52 => (((0 : Int) ≤ i50) ∧ ((i50 : Int) < ((na0 : Nat) : Int)) ∧
    (∃ (p53 : Option Addr) (n54 c55 : Nat), ld1 h45 b51 (o52 + Int.toNat i50 * 1) = some (.slice p53 n54 c55) ∧
    (((65535 : Int) < ((n54 : Nat) : Int) → Q (.tuple #[(.slice none 0 0), (.int .i64 21)]) h45) ∧
    (¬ (65535 : Int) < ((n54 : Nat) : Int) → ∀ i56 : Int, i56 = IntKind.wrap .u64 ((n54 : Nat) : Int) → Wf Tryz.prog K 30 [(.int .u64 i56), (.int .i64 2)] h45 fun r57 h58 =>
    (∃ (p59 : Option Addr) (n60 c61 : Nat), ((r57 = (.tuple #[(.slice p59 n60 c61), (.bool true)]) ∧
    (∃ (p62 : Option Addr) (n63 c64 : Nat) (h65 : AH), aBuiltin Tryz.prog h58 .append #[26, 26] [(.slice p47 n48 c49), (.slice p59 n60 c61)] = some (.slice p62 n63 c64, h65) ∧
    (∃ (p66 : Option Addr) (n67 c68 : Nat) (h69 : AH), aBuiltin Tryz.prog h65 .append #[26, 26] [(.slice p62 n63 c64), (.slice p53 n54 c55)] = some (.slice p66 n67 c68, h69) ∧
    (∀ i70 : Int, i70 = IntKind.wrap .i64 (i50 + 1) → ∃ j46, j46 < k44 ∧ I43 p66 n67 c68 i70 j46 h69)))) ∨ (r57 = (.tuple #[(.slice p59 n60 c61), (.bool false)]) ∧
    (∃ (p71 : Option Addr) (n72 c73 : Nat) (h74 : AH), aBuiltin Tryz.prog h58 .append #[26, 26] [(.slice p47 n48 c49), (.slice p59 n60 c61)] = some (.slice p71 n72 c73, h74) ∧
    (∃ (p75 : Option Addr) (n76 c77 : Nat) (h78 : AH), aBuiltin Tryz.prog h74 .append #[26, 26] [(.slice p71 n72 c73), (.slice p53 n54 c55)] = some (.slice p75 n76 c77, h78) ∧
    (∀ i79 : Int, i79 = IntKind.wrap .i64 (i50 + 1) → ∃ j46, j46 < k44 ∧ I43 p75 n76 c77 i79 j46 h78))))))))))) ∧
    (¬ (i50 : Int) < ((na0 : Nat) : Int) → Q (.tuple #[(.slice p47 n48 c49), (.int .i64 0)]) h45))))))) :
    Wf Tryz.prog K 18 [(.slice pa0 na0 ca0)] h Q :=
  vcF_sound (hs := [(5, [(4, .slice none 0 0), (22, .int .i64 0)])]) hk (Eq.mpr (by kernel_rfl) H)
theorem vc_aquiferref02_Split {K : Xs} (hk : K 27 = none) (pa0 : Option Addr) (na0 ca0 : Nat) (h : AH) (Q : Value → AH → Prop) (H :
    ((((na0 : Nat) : Int) : Int) < 2 → Q (.tuple #[(.slice none 0 0), (.int .i64 21)]) h) ∧
    (¬ (((na0 : Nat) : Int) : Int) < 2 → ∀ h0 : AH, h0 = h.alloc (.cells ([] : List Value) 26 false) →
    ∃ (p1 : Option Addr) (n2 c3 : Nat), aSlice Tryz.prog h0 26 (.slice pa0 na0 ca0) none (some (.int .i64 2)) none = some (.slice p1 n2 c3) ∧
    (Wf Tryz.prog K 28 [(.slice p1 n2 c3)] h0 fun r4 h5 =>
    (∃ i6 : Int, r4 = (.int .u64 i6) ∧
    (∀ i7 : Int, i7 = IntKind.wrap .i64 i6 → ∃ I8 : Option Addr → Nat → Nat → Int → Int → Nat → AH → Prop, (∃ n, I8 (some ⟨h.next, 0, none⟩) 0 0 2 i7 n h5) ∧
    ∀ (k9 : Nat) (h10 : AH) (p12 : Option Addr) (n13 : Nat) (c14 : Nat) (i15 : Int) (i16 : Int), I8 p12 n13 c14 i15 i16 k9 h10 →
    ((0 : Int) < i16 → ∀ i17 : Int, i17 = IntKind.wrap .i64 (((na0 : Nat) : Int) - i15) → ((i17 : Int) < 2 → Q (.tuple #[(.slice none 0 0), (.int .i64 21)]) h10) ∧
    (¬ (i17 : Int) < 2 → ∀ i18 : Int, i18 = IntKind.wrap .i64 (i15 + 2) → ∃ (p19 : Option Addr) (n20 c21 : Nat), aSlice Tryz.prog h10 26 (.slice pa0 na0 ca0) (some (.int .i64 i15)) (some (.int .i64 i18)) none = some (.slice p19 n20 c21) ∧
    (Wf Tryz.prog K 28 [(.slice p19 n20 c21)] h10 fun r22 h23 =>
    (∃ i24 : Int, r22 = (.int .u64 i24) ∧
    (∀ i25 : Int, i25 = IntKind.wrap .i64 i24 → ∀ i26 : Int, i26 = IntKind.wrap .i64 (((na0 : Nat) : Int) - i15) → ∀ i27 : Int, i27 = IntKind.wrap .i64 (i26 - 2) → ((i27 : Int) < i25 → Q (.tuple #[(.slice none 0 0), (.int .i64 21)]) h23) ∧
    (¬ (i27 : Int) < i25 → ∀ h28 : AH, h28 = h23.alloc (.cells ([] : List Value) 5 false) →
    ∀ i29 : Int, i29 = IntKind.wrap .i64 (i15 + 2) → ∀ i30 : Int, i30 = IntKind.wrap .i64 (i15 + 2) → ∀ i31 : Int, i31 = IntKind.wrap .i64 (i30 + i25) → ∃ (p32 : Option Addr) (n33 c34 : Nat), aSlice Tryz.prog h28 26 (.slice pa0 na0 ca0) (some (.int .i64 i29)) (some (.int .i64 i31)) none = some (.slice p32 n33 c34) ∧
    (∃ (p35 : Option Addr) (n36 c37 : Nat) (h38 : AH), aBuiltin Tryz.prog h28 .append #[26, 26] [(.slice (some ⟨h23.next, 0, none⟩) 0 0), (.slice p32 n33 c34)] = some (.slice p35 n36 c37, h38) ∧
    (∀ h39 : AH, h39 = h38.alloc (.cells ([(.slice p35 n36 c37)] : List Value) 26 false) →
    ∃ (p40 : Option Addr) (n41 c42 : Nat) (h43 : AH), aBuiltin Tryz.prog h39 .append #[47, 47] [(.slice p12 n13 c14), (.slice (some ⟨h38.next, 0, none⟩) 1 1)] = some (.slice p40 n41 c42, h43) ∧
    (∀ i44 : Int, i44 = IntKind.wrap .i64 (2 + i25) → ∀ i45 : Int, i45 = IntKind.wrap .i64 (i15 + i44) → ∀ i46 : Int, i46 = IntKind.wrap .i64 (i16 - 1) → ∃ j11, j11 < k9 ∧ I8 p40 n41 c42 i45 i46 j11 h43))))))))) ∧
    (¬ (0 : Int) < i16 → ((i15 : Int) = ((na0 : Nat) : Int) → Q (.tuple #[(.slice p12 n13 c14), (.int .i64 0)]) h10) ∧
    (¬ (i15 : Int) = ((na0 : Nat) : Int) → Q (.tuple #[(.slice none 0 0), (.int .i64 21)]) h10))))))) :
    Wf Tryz.prog K 27 [(.slice pa0 na0 ca0)] h Q :=
  vcF_sound (hs := [(6, [(4, .slice none 0 0), (5, .int .i64 0), (6, .int .i64 0)])]) hk (Eq.mpr (by kernel_rfl) H)
theorem vc_aquiferref02_Value {K : Xs} (hk : K 28 = none) (pa0 : Option Addr) (na0 ca0 : Nat) (h : AH) (Q : Value → AH → Prop) (H :
    ∀ i0 : Int, i0 = IntKind.wrap .i64 (((na0 : Nat) : Int) - 1) → ∃ I1 : Int → Int → Nat → AH → Prop, (∃ n, I1 0 i0 n h) ∧
    ∀ (k2 : Nat) (h3 : AH) (i5 : Int) (i6 : Int), I1 i5 i6 k2 h3 →
    ((0 : Int) ≤ i6 → ∀ i7 : Int, i7 = IntKind.wrap .u64 (i5 * 256) → derefP pa0 fun b8 o9 => (((0 : Int) ≤ i6) ∧ ((i6 : Int) < ((na0 : Nat) : Int)) ∧
    (∃ i10 : Int, ld1 h3 b8 (o9 + Int.toNat i6 * 1) = some (.int .u8 i10) ∧
    (∀ i11 : Int, i11 = IntKind.wrap .u64 i10 → ∀ i12 : Int, i12 = IntKind.wrap .u64 (i7 + i11) → ∀ i13 : Int, i13 = IntKind.wrap .i64 (i6 - 1) → ∃ j4, j4 < k2 ∧ I1 i12 i13 j4 h3)))) ∧
    (¬ (0 : Int) ≤ i6 → Q (.int .u64 i5) h3)) :
    Wf Tryz.prog K 28 [(.slice pa0 na0 ca0)] h Q :=
  vcF_sound (hs := [(3, [(3, .int .u64 0), (4, .int .i64 0)])]) hk (Eq.mpr (by kernel_rfl) H)
theorem vc_aquiferref02_Number {K : Xs} (hk : K 30 = none) (ia0 : Int) (ia1 : Int) (h : AH) (Q : Value → AH → Prop) (H :
    ∀ h0 : AH, h0 = h.alloc (.cells ([] : List Value) 5 false) →
    ∃ I1 : Int → Option Addr → Nat → Nat → Int → Nat → AH → Prop, (∃ n, I1 ia0 (some ⟨h.next, 0, none⟩) 0 0 0 n h0) ∧
    ∀ (k2 : Nat) (h3 : AH) (i5 : Int) (p6 : Option Addr) (n7 : Nat) (c8 : Nat) (i9 : Int), I1 i5 p6 n7 c8 i9 k2 h3 →
    ((i9 : Int) < ia1 → (256 ≠ (0 : Int)) ∧ (∀ i10 : Int, i10 = Int.tmod i5 256 → ∀ i11 : Int, i11 = IntKind.wrap .u8 i10 → ∀ h12 : AH, h12 = h3.alloc (.cells ([(.int .u8 i11)] : List Value) 5 false) →
    ∃ (p13 : Option Addr) (n14 c15 : Nat) (h16 : AH), aBuiltin Tryz.prog h12 .append #[26, 26] [(.slice p6 n7 c8), (.slice (some ⟨h3.next, 0, none⟩) 1 1)] = some (.slice p13 n14 c15, h16) ∧
    ((256 ≠ (0 : Int)) ∧ (∀ i17 : Int, i17 = IntKind.wrap .u64 (Int.tdiv i5 256) → ∀ i18 : Int, i18 = IntKind.wrap .i64 (i9 + 1) → ∃ j4, j4 < k2 ∧ I1 i17 p13 n14 c15 i18 j4 h16)))) ∧
    (¬ (i9 : Int) < ia1 → ((i5 : Int) = 0 → Q (.tuple #[(.slice p6 n7 c8), (.bool true)]) h3) ∧
    (¬ (i5 : Int) = 0 → Q (.tuple #[(.slice p6 n7 c8), (.bool false)]) h3))) :
    Wf Tryz.prog K 30 [(.int .u64 ia0), (.int .i64 ia1)] h Q :=
  vcF_sound (hs := [(3, [(0, .int .u64 0), (6, .slice none 0 0), (7, .int .i64 0)])]) hk (Eq.mpr (by kernel_rfl) H)
theorem vc_aquiferlaw23_ScriptBytes {K : Xs} (hk : K 3 = none) (ia0_0 : Int) (pa0_1 : Option Addr) (na0_1 ca0_1 : Nat) (h : AH) (Q : Value → AH → Prop) (H :
    ∀ h0 : AH, h0 = h.alloc (.cells ([(.int .i64 ia0_0), (.slice pa0_1 na0_1 ca0_1)] : List Value) 24 false) →
    ∃ i1 : Int, ∃ (p2 : Option Addr) (n3 c4 : Nat), ldN h0 h.next 0 2 = some ([(.int .i64 i1), (.slice p2 n3 c4)] : List Value) ∧
    (Wf Tryz.prog K 6 [(.agg #[(.int .i64 i1), (.slice p2 n3 c4)])] h0 fun r5 h6 =>
    (∃ i7 : Int, ∃ (p8 : Option Addr) (n9 c10 : Nat), r5 = (.agg #[(.int .i64 i7), (.slice p8 n9 c10)]) ∧
    (∀ h11 : AH, h11 = h6.alloc (.cells ([(.int .i64 0), (.slice none 0 0)] : List Value) 24 false) →
    (List.length ([(.int .i64 i7), (.slice p8 n9 c10)] : List Value) = 2) ∧ ∃ h12 : AH, stN h11 h6.next 0 ([(.int .i64 i7), (.slice p8 n9 c10)] : List Value) = some h12 ∧
    (∃ i13 : Int, ∃ (p14 : Option Addr) (n15 c16 : Nat), ldN h12 h6.next 0 2 = some ([(.int .i64 i13), (.slice p14 n15 c16)] : List Value) ∧
    (Wf Tryz.prog K 7 [(.agg #[(.int .i64 i13), (.slice p14 n15 c16)])] h12 fun r17 h18 =>
    (∃ (p19 : Option Addr) (n20 c21 : Nat), ∃ i22 : Int, r17 = (.tuple #[(.slice p19 n20 c21), (.int .i64 i22)]) ∧
    (∃ i23 : Int, ∃ (p24 : Option Addr) (n25 c26 : Nat), ldN h18 h.next 0 2 = some ([(.int .i64 i23), (.slice p24 n25 c26)] : List Value) ∧
    (Wf Tryz.prog K 8 [(.agg #[(.int .i64 i23), (.slice p24 n25 c26)])] h18 fun r27 h28 =>
    (∃ (p29 : Option Addr) (n30 c31 : Nat), ∃ i32 : Int, r27 = (.tuple #[(.slice p29 n30 c31), (.int .i64 i32)]) ∧
    (Wf Tryz.prog K 9 [] h28 fun r33 h34 =>
    (((r33 = (.bool true) ∧
    (∃ i35 : Int, ∃ (p36 : Option Addr) (n37 c38 : Nat), ldN h34 h6.next 0 2 = some ([(.int .i64 i35), (.slice p36 n37 c38)] : List Value) ∧
    (Wf Tryz.prog K 10 [(.agg #[(.int .i64 i35), (.slice p36 n37 c38)])] h34 fun r39 h40 =>
    (((r39 = (.bool true) ∧
    (∃ i41 : Int, ∃ (p42 : Option Addr) (n43 c44 : Nat), ldN h40 h.next 0 2 = some ([(.int .i64 i41), (.slice p42 n43 c44)] : List Value) ∧
    (Wf Tryz.prog K 11 [(.agg #[(.int .i64 i41), (.slice p42 n43 c44)])] h40 fun r45 h46 =>
    (((r45 = (.bool true) ∧
    (∃ s47 : ByteArray, aConvert Tryz.prog h46 26 9 (.slice p19 n20 c21) = some (.string s47, h46) ∧
    (∃ s48 : ByteArray, aConvert Tryz.prog h46 26 9 (.slice p29 n30 c31) = some (.string s48, h46) ∧
    ((s47 = s48 → ((i22 : Int) = i32 → ∃ i49 : Int, ∃ (p50 : Option Addr) (n51 c52 : Nat), ldN h46 h6.next 0 2 = some ([(.int .i64 i49), (.slice p50 n51 c52)] : List Value) ∧
    (∃ i53 : Int, ∃ (p54 : Option Addr) (n55 c56 : Nat), ldN h46 h.next 0 2 = some ([(.int .i64 i53), (.slice p54 n55 c56)] : List Value) ∧
    (Wf Tryz.prog K 12 [(.agg #[(.int .i64 i49), (.slice p50 n51 c52)]), (.agg #[(.int .i64 i53), (.slice p54 n55 c56)])] h46 fun r57 h58 =>
    (((r57 = (.bool true) ∧
    ((ldN h34 h.next 0 2 = some ([(.int .i64 i41), (.slice p42 n43 c44)] : List Value)) ∧
    ((ldN h40 h.next 0 2 = some ([(.int .i64 i41), (.slice p42 n43 c44)] : List Value)) ∧
    (Q (.bool true) h58)))) ∨ (r57 = (.bool false) ∧
    ((ldN h34 h.next 0 2 = some ([(.int .i64 i41), (.slice p42 n43 c44)] : List Value)) ∧
    ((ldN h40 h.next 0 2 = some ([(.int .i64 i41), (.slice p42 n43 c44)] : List Value)) ∧
    (Q (.bool false) h58))))))))) ∧
    (¬ (i22 : Int) = i32 → (ldN h34 h.next 0 2 = some ([(.int .i64 i41), (.slice p42 n43 c44)] : List Value)) ∧
    ((ldN h40 h.next 0 2 = some ([(.int .i64 i41), (.slice p42 n43 c44)] : List Value)) ∧
    (Q (.bool false) h46)))) ∧
    (¬ s47 = s48 → (ldN h34 h.next 0 2 = some ([(.int .i64 i41), (.slice p42 n43 c44)] : List Value)) ∧
    ((ldN h40 h.next 0 2 = some ([(.int .i64 i41), (.slice p42 n43 c44)] : List Value)) ∧
    (Q (.bool false) h46))))))) ∨ (r45 = (.bool false) ∧
    ((ldN h34 h.next 0 2 = some ([(.int .i64 i41), (.slice p42 n43 c44)] : List Value)) ∧
    ((ldN h40 h.next 0 2 = some ([(.int .i64 i41), (.slice p42 n43 c44)] : List Value)) ∧
    (Q (.bool false) h46))))))))) ∨ (r39 = (.bool false) ∧
    (∃ i59 : Int, ∃ (p60 : Option Addr) (n61 c62 : Nat), ldN h40 h.next 0 2 = some ([(.int .i64 i59), (.slice p60 n61 c62)] : List Value) ∧
    (Wf Tryz.prog K 11 [(.agg #[(.int .i64 i59), (.slice p60 n61 c62)])] h40 fun r63 h64 =>
    (((r63 = (.bool true) ∧
    ((ldN h34 h.next 0 2 = some ([(.int .i64 i59), (.slice p60 n61 c62)] : List Value)) ∧
    ((ldN h40 h.next 0 2 = some ([(.int .i64 i59), (.slice p60 n61 c62)] : List Value)) ∧
    (Q (.bool false) h64)))) ∨ (r63 = (.bool false) ∧
    (∃ s65 : ByteArray, aConvert Tryz.prog h64 26 9 (.slice p19 n20 c21) = some (.string s65, h64) ∧
    (∃ s66 : ByteArray, aConvert Tryz.prog h64 26 9 (.slice p29 n30 c31) = some (.string s66, h64) ∧
    ((s65 = s66 → ((i22 : Int) = i32 → ∃ i67 : Int, ∃ (p68 : Option Addr) (n69 c70 : Nat), ldN h64 h6.next 0 2 = some ([(.int .i64 i67), (.slice p68 n69 c70)] : List Value) ∧
    (∃ i71 : Int, ∃ (p72 : Option Addr) (n73 c74 : Nat), ldN h64 h.next 0 2 = some ([(.int .i64 i71), (.slice p72 n73 c74)] : List Value) ∧
    (Wf Tryz.prog K 12 [(.agg #[(.int .i64 i67), (.slice p68 n69 c70)]), (.agg #[(.int .i64 i71), (.slice p72 n73 c74)])] h64 fun r75 h76 =>
    (((r75 = (.bool true) ∧
    ((ldN h34 h.next 0 2 = some ([(.int .i64 i59), (.slice p60 n61 c62)] : List Value)) ∧
    ((ldN h40 h.next 0 2 = some ([(.int .i64 i59), (.slice p60 n61 c62)] : List Value)) ∧
    (Q (.bool true) h76)))) ∨ (r75 = (.bool false) ∧
    ((ldN h34 h.next 0 2 = some ([(.int .i64 i59), (.slice p60 n61 c62)] : List Value)) ∧
    ((ldN h40 h.next 0 2 = some ([(.int .i64 i59), (.slice p60 n61 c62)] : List Value)) ∧
    (Q (.bool false) h76))))))))) ∧
    (¬ (i22 : Int) = i32 → (ldN h34 h.next 0 2 = some ([(.int .i64 i59), (.slice p60 n61 c62)] : List Value)) ∧
    ((ldN h40 h.next 0 2 = some ([(.int .i64 i59), (.slice p60 n61 c62)] : List Value)) ∧
    (Q (.bool false) h64)))) ∧
    (¬ s65 = s66 → (ldN h34 h.next 0 2 = some ([(.int .i64 i59), (.slice p60 n61 c62)] : List Value)) ∧
    ((ldN h40 h.next 0 2 = some ([(.int .i64 i59), (.slice p60 n61 c62)] : List Value)) ∧
    (Q (.bool false) h64))))))))))))))))) ∨ (r33 = (.bool false) ∧
    (Q (.bool false) h34))))))))))))))) :
    Wf Tryz.prog K 3 [(.agg #[(.int .i64 ia0_0), (.slice pa0_1 na0_1 ca0_1)])] h Q :=
  vcF_sound (hs := []) hk (Eq.mpr (by kernel_rfl) H)
theorem vc_aquiferlaw23_ScriptReads {K : Xs} (hk : K 4 = none) (pa0 : Option Addr) (na0 ca0 : Nat) (h : AH) (Q : Value → AH → Prop) (H :
    ∀ h0 : AH, h0 = h.alloc (.cells ([] : List Value) 5 false) →
    ∃ (p1 : Option Addr) (n2 c3 : Nat) (h4 : AH), aBuiltin Tryz.prog h0 .append #[26, 26] [(.slice (some ⟨h.next, 0, none⟩) 0 0), (.slice pa0 na0 ca0)] = some (.slice p1 n2 c3, h4) ∧
    (Wf Tryz.prog K 13 [(.slice p1 n2 c3)] h4 fun r5 h6 =>
    (∃ i7 : Int, ∃ (p8 : Option Addr) (n9 c10 : Nat), ∃ i11 : Int, r5 = (.tuple #[(.agg #[(.int .i64 i7), (.slice p8 n9 c10)]), (.int .i64 i11)]) ∧
    (∀ h12 : AH, h12 = h6.alloc (.cells ([(.int .i64 0), (.slice none 0 0)] : List Value) 24 false) →
    (List.length ([(.int .i64 i7), (.slice p8 n9 c10)] : List Value) = 2) ∧ ∃ h13 : AH, stN h12 h6.next 0 ([(.int .i64 i7), (.slice p8 n9 c10)] : List Value) = some h13 ∧
    (Wf Tryz.prog K 14 [(.slice pa0 na0 ca0)] h13 fun r14 h15 =>
    (∃ i16 : Int, ∃ (p17 : Option Addr) (n18 c19 : Nat), ∃ i20 : Int, r14 = (.tuple #[(.agg #[(.int .i64 i16), (.slice p17 n18 c19)]), (.int .i64 i20)]) ∧
    (∀ h21 : AH, h21 = h15.alloc (.cells ([(.int .i64 0), (.slice none 0 0)] : List Value) 24 false) →
    (List.length ([(.int .i64 i16), (.slice p17 n18 c19)] : List Value) = 2) ∧ ∃ h22 : AH, stN h21 h15.next 0 ([(.int .i64 i16), (.slice p17 n18 c19)] : List Value) = some h22 ∧
    (Wf Tryz.prog K 9 [] h22 fun r23 h24 =>
    (((r23 = (.bool true) ∧
    (∃ i25 : Int, ∃ (p26 : Option Addr) (n27 c28 : Nat), ldN h24 h6.next 0 2 = some ([(.int .i64 i25), (.slice p26 n27 c28)] : List Value) ∧
    (∃ i29 : Int, ∃ (p30 : Option Addr) (n31 c32 : Nat), ldN h24 h15.next 0 2 = some ([(.int .i64 i29), (.slice p30 n31 c32)] : List Value) ∧
    (Wf Tryz.prog K 12 [(.agg #[(.int .i64 i25), (.slice p26 n27 c28)]), (.agg #[(.int .i64 i29), (.slice p30 n31 c32)])] h24 fun r33 h34 =>
    (((r33 = (.bool true) ∧
    (((i11 : Int) = i20 → Q (.bool true) h34) ∧
    (¬ (i11 : Int) = i20 → Q (.bool false) h34))) ∨ (r33 = (.bool false) ∧
    (Q (.bool false) h34)))))))) ∨ (r23 = (.bool false) ∧
    (Q (.bool false) h24)))))))))))) :
    Wf Tryz.prog K 4 [(.slice pa0 na0 ca0)] h Q :=
  vcF_sound (hs := []) hk (Eq.mpr (by kernel_rfl) H)
theorem vc_aquiferlaw23_ScriptBack {K : Xs} (hk : K 5 = none) (ia0_0 : Int) (pa0_1 : Option Addr) (na0_1 ca0_1 : Nat) (pa1 : Option Addr) (na1 ca1 : Nat) (h : AH) (Q : Value → AH → Prop) (H :
    ∀ h0 : AH, h0 = h.alloc (.cells ([(.int .i64 ia0_0), (.slice pa0_1 na0_1 ca0_1)] : List Value) 24 false) →
    Wf Tryz.prog K 9 [] h0 fun r1 h2 =>
    (((r1 = (.bool true) ∧
    (∃ i3 : Int, ∃ (p4 : Option Addr) (n5 c6 : Nat), ldN h2 h.next 0 2 = some ([(.int .i64 i3), (.slice p4 n5 c6)] : List Value) ∧
    (Wf Tryz.prog K 6 [(.agg #[(.int .i64 i3), (.slice p4 n5 c6)])] h2 fun r7 h8 =>
    (∃ i9 : Int, ∃ (p10 : Option Addr) (n11 c12 : Nat), r7 = (.agg #[(.int .i64 i9), (.slice p10 n11 c12)]) ∧
    (Wf Tryz.prog K 7 [(.agg #[(.int .i64 i9), (.slice p10 n11 c12)])] h8 fun r13 h14 =>
    (∃ (p15 : Option Addr) (n16 c17 : Nat), ∃ i18 : Int, r13 = (.tuple #[(.slice p15 n16 c17), (.int .i64 i18)]) ∧
    (((i18 : Int) = 0 → ∃ i19 : Int, ∃ (p20 : Option Addr) (n21 c22 : Nat), ldN h14 h.next 0 2 = some ([(.int .i64 i19), (.slice p20 n21 c22)] : List Value) ∧
    (Wf Tryz.prog K 10 [(.agg #[(.int .i64 i19), (.slice p20 n21 c22)])] h14 fun r23 h24 =>
    (((r23 = (.bool true) ∧
    (((i18 : Int) = 0 → Wf Tryz.prog K 13 [(.slice p15 n16 c17)] h24 fun r25 h26 =>
    (∃ i27 : Int, ∃ (p28 : Option Addr) (n29 c30 : Nat), ∃ i31 : Int, r25 = (.tuple #[(.agg #[(.int .i64 i27), (.slice p28 n29 c30)]), (.int .i64 i31)]) ∧
    (∀ h32 : AH, h32 = h26.alloc (.cells ([(.int .i64 0), (.slice none 0 0)] : List Value) 24 false) →
    (List.length ([(.int .i64 i27), (.slice p28 n29 c30)] : List Value) = 2) ∧ ∃ h33 : AH, stN h32 h26.next 0 ([(.int .i64 i27), (.slice p28 n29 c30)] : List Value) = some h33 ∧
    (((i31 : Int) = 0 → ∃ i34 : Int, ∃ (p35 : Option Addr) (n36 c37 : Nat), ldN h33 h26.next 0 2 = some ([(.int .i64 i34), (.slice p35 n36 c37)] : List Value) ∧
    (∃ i38 : Int, ∃ (p39 : Option Addr) (n40 c41 : Nat), ldN h33 h.next 0 2 = some ([(.int .i64 i38), (.slice p39 n40 c41)] : List Value) ∧
    (Wf Tryz.prog K 12 [(.agg #[(.int .i64 i34), (.slice p35 n36 c37)]), (.agg #[(.int .i64 i38), (.slice p39 n40 c41)])] h33 fun r42 h43 =>
    (((r42 = (.bool true) ∧
    (∀ h44 : AH, h44 = h43.alloc (.cells ([] : List Value) 5 false) →
    ∃ (p45 : Option Addr) (n46 c47 : Nat) (h48 : AH), aBuiltin Tryz.prog h44 .append #[26, 26] [(.slice (some ⟨h43.next, 0, none⟩) 0 0), (.slice pa1 na1 ca1)] = some (.slice p45 n46 c47, h48) ∧
    (Wf Tryz.prog K 13 [(.slice p45 n46 c47)] h48 fun r49 h50 =>
    (∃ i51 : Int, ∃ (p52 : Option Addr) (n53 c54 : Nat), ∃ i55 : Int, r49 = (.tuple #[(.agg #[(.int .i64 i51), (.slice p52 n53 c54)]), (.int .i64 i55)]) ∧
    (∀ h56 : AH, h56 = h50.alloc (.cells ([(.int .i64 0), (.slice none 0 0)] : List Value) 24 false) →
    (List.length ([(.int .i64 i51), (.slice p52 n53 c54)] : List Value) = 2) ∧ ∃ h57 : AH, stN h56 h50.next 0 ([(.int .i64 i51), (.slice p52 n53 c54)] : List Value) = some h57 ∧
    (((i55 : Int) = 0 → ∃ i58 : Int, ∃ (p59 : Option Addr) (n60 c61 : Nat), ldN h57 h50.next 0 2 = some ([(.int .i64 i58), (.slice p59 n60 c61)] : List Value) ∧
    (Wf Tryz.prog K 7 [(.agg #[(.int .i64 i58), (.slice p59 n60 c61)])] h57 fun r62 h63 =>
    (∃ (p64 : Option Addr) (n65 c66 : Nat), ∃ i67 : Int, r62 = (.tuple #[(.slice p64 n65 c66), (.int .i64 i67)]) ∧
    (((i67 : Int) = 0 → ∃ s68 : ByteArray, aConvert Tryz.prog h63 26 9 (.slice p64 n65 c66) = some (.string s68, h63) ∧
    (∃ s69 : ByteArray, aConvert Tryz.prog h63 26 9 (.slice pa1 na1 ca1) = some (.string s69, h63) ∧
    ((s68 = s69 → Q (.bool true) h63) ∧
    (¬ s68 = s69 → Q (.bool false) h63)))) ∧
    (¬ (i67 : Int) = 0 → Q (.bool false) h63))))) ∧
    (¬ (i55 : Int) = 0 → ((i55 : Int) = 231 → ∃ i70 : Int, ∃ (p71 : Option Addr) (n72 c73 : Nat), ldN h57 h50.next 0 2 = some ([(.int .i64 i70), (.slice p71 n72 c73)] : List Value) ∧
    (Wf Tryz.prog K 12 [(.agg #[(.int .i64 i70), (.slice p71 n72 c73)]), (.agg #[(.int .i64 0), (.slice none 0 0)])] h57 fun r74 h75 =>
    (((r74 = (.bool true) ∧
    (Q (.bool true) h75)) ∨ (r74 = (.bool false) ∧
    (Q (.bool false) h75)))))) ∧
    (¬ (i55 : Int) = 231 → Q (.bool false) h57)))))))) ∨ (r42 = (.bool false) ∧
    (Q (.bool false) h43))))))) ∧
    (¬ (i31 : Int) = 0 → Q (.bool false) h33))))) ∧
    (¬ (i18 : Int) = 0 → ∀ h76 : AH, h76 = h24.alloc (.cells ([] : List Value) 5 false) →
    ∃ (p77 : Option Addr) (n78 c79 : Nat) (h80 : AH), aBuiltin Tryz.prog h76 .append #[26, 26] [(.slice (some ⟨h24.next, 0, none⟩) 0 0), (.slice pa1 na1 ca1)] = some (.slice p77 n78 c79, h80) ∧
    (Wf Tryz.prog K 13 [(.slice p77 n78 c79)] h80 fun r81 h82 =>
    (∃ i83 : Int, ∃ (p84 : Option Addr) (n85 c86 : Nat), ∃ i87 : Int, r81 = (.tuple #[(.agg #[(.int .i64 i83), (.slice p84 n85 c86)]), (.int .i64 i87)]) ∧
    (∀ h88 : AH, h88 = h82.alloc (.cells ([(.int .i64 0), (.slice none 0 0)] : List Value) 24 false) →
    (List.length ([(.int .i64 i83), (.slice p84 n85 c86)] : List Value) = 2) ∧ ∃ h89 : AH, stN h88 h82.next 0 ([(.int .i64 i83), (.slice p84 n85 c86)] : List Value) = some h89 ∧
    (((i87 : Int) = 0 → ∃ i90 : Int, ∃ (p91 : Option Addr) (n92 c93 : Nat), ldN h89 h82.next 0 2 = some ([(.int .i64 i90), (.slice p91 n92 c93)] : List Value) ∧
    (Wf Tryz.prog K 7 [(.agg #[(.int .i64 i90), (.slice p91 n92 c93)])] h89 fun r94 h95 =>
    (∃ (p96 : Option Addr) (n97 c98 : Nat), ∃ i99 : Int, r94 = (.tuple #[(.slice p96 n97 c98), (.int .i64 i99)]) ∧
    (((i99 : Int) = 0 → ∃ s100 : ByteArray, aConvert Tryz.prog h95 26 9 (.slice p96 n97 c98) = some (.string s100, h95) ∧
    (∃ s101 : ByteArray, aConvert Tryz.prog h95 26 9 (.slice pa1 na1 ca1) = some (.string s101, h95) ∧
    ((s100 = s101 → Q (.bool true) h95) ∧
    (¬ s100 = s101 → Q (.bool false) h95)))) ∧
    (¬ (i99 : Int) = 0 → Q (.bool false) h95))))) ∧
    (¬ (i87 : Int) = 0 → ((i87 : Int) = 231 → ∃ i102 : Int, ∃ (p103 : Option Addr) (n104 c105 : Nat), ldN h89 h82.next 0 2 = some ([(.int .i64 i102), (.slice p103 n104 c105)] : List Value) ∧
    (Wf Tryz.prog K 12 [(.agg #[(.int .i64 i102), (.slice p103 n104 c105)]), (.agg #[(.int .i64 0), (.slice none 0 0)])] h89 fun r106 h107 =>
    (((r106 = (.bool true) ∧
    (Q (.bool true) h107)) ∨ (r106 = (.bool false) ∧
    (Q (.bool false) h107)))))) ∧
    (¬ (i87 : Int) = 231 → Q (.bool false) h89))))))))) ∨ (r23 = (.bool false) ∧
    (Q (.bool false) h24)))))) ∧
    (¬ (i18 : Int) = 0 → ∃ i108 : Int, ∃ (p109 : Option Addr) (n110 c111 : Nat), ldN h14 h.next 0 2 = some ([(.int .i64 i108), (.slice p109 n110 c111)] : List Value) ∧
    (Wf Tryz.prog K 10 [(.agg #[(.int .i64 i108), (.slice p109 n110 c111)])] h14 fun r112 h113 =>
    (((r112 = (.bool true) ∧
    (Q (.bool false) h113)) ∨ (r112 = (.bool false) ∧
    (((i18 : Int) = 0 → Wf Tryz.prog K 13 [(.slice p15 n16 c17)] h113 fun r114 h115 =>
    (∃ i116 : Int, ∃ (p117 : Option Addr) (n118 c119 : Nat), ∃ i120 : Int, r114 = (.tuple #[(.agg #[(.int .i64 i116), (.slice p117 n118 c119)]), (.int .i64 i120)]) ∧
    (∀ h121 : AH, h121 = h115.alloc (.cells ([(.int .i64 0), (.slice none 0 0)] : List Value) 24 false) →
    (List.length ([(.int .i64 i116), (.slice p117 n118 c119)] : List Value) = 2) ∧ ∃ h122 : AH, stN h121 h115.next 0 ([(.int .i64 i116), (.slice p117 n118 c119)] : List Value) = some h122 ∧
    (((i120 : Int) = 0 → ∃ i123 : Int, ∃ (p124 : Option Addr) (n125 c126 : Nat), ldN h122 h115.next 0 2 = some ([(.int .i64 i123), (.slice p124 n125 c126)] : List Value) ∧
    (∃ i127 : Int, ∃ (p128 : Option Addr) (n129 c130 : Nat), ldN h122 h.next 0 2 = some ([(.int .i64 i127), (.slice p128 n129 c130)] : List Value) ∧
    (Wf Tryz.prog K 12 [(.agg #[(.int .i64 i123), (.slice p124 n125 c126)]), (.agg #[(.int .i64 i127), (.slice p128 n129 c130)])] h122 fun r131 h132 =>
    (((r131 = (.bool true) ∧
    (∀ h133 : AH, h133 = h132.alloc (.cells ([] : List Value) 5 false) →
    ∃ (p134 : Option Addr) (n135 c136 : Nat) (h137 : AH), aBuiltin Tryz.prog h133 .append #[26, 26] [(.slice (some ⟨h132.next, 0, none⟩) 0 0), (.slice pa1 na1 ca1)] = some (.slice p134 n135 c136, h137) ∧
    (Wf Tryz.prog K 13 [(.slice p134 n135 c136)] h137 fun r138 h139 =>
    (∃ i140 : Int, ∃ (p141 : Option Addr) (n142 c143 : Nat), ∃ i144 : Int, r138 = (.tuple #[(.agg #[(.int .i64 i140), (.slice p141 n142 c143)]), (.int .i64 i144)]) ∧
    (∀ h145 : AH, h145 = h139.alloc (.cells ([(.int .i64 0), (.slice none 0 0)] : List Value) 24 false) →
    (List.length ([(.int .i64 i140), (.slice p141 n142 c143)] : List Value) = 2) ∧ ∃ h146 : AH, stN h145 h139.next 0 ([(.int .i64 i140), (.slice p141 n142 c143)] : List Value) = some h146 ∧
    (((i144 : Int) = 0 → ∃ i147 : Int, ∃ (p148 : Option Addr) (n149 c150 : Nat), ldN h146 h139.next 0 2 = some ([(.int .i64 i147), (.slice p148 n149 c150)] : List Value) ∧
    (Wf Tryz.prog K 7 [(.agg #[(.int .i64 i147), (.slice p148 n149 c150)])] h146 fun r151 h152 =>
    (∃ (p153 : Option Addr) (n154 c155 : Nat), ∃ i156 : Int, r151 = (.tuple #[(.slice p153 n154 c155), (.int .i64 i156)]) ∧
    (((i156 : Int) = 0 → ∃ s157 : ByteArray, aConvert Tryz.prog h152 26 9 (.slice p153 n154 c155) = some (.string s157, h152) ∧
    (∃ s158 : ByteArray, aConvert Tryz.prog h152 26 9 (.slice pa1 na1 ca1) = some (.string s158, h152) ∧
    ((s157 = s158 → Q (.bool true) h152) ∧
    (¬ s157 = s158 → Q (.bool false) h152)))) ∧
    (¬ (i156 : Int) = 0 → Q (.bool false) h152))))) ∧
    (¬ (i144 : Int) = 0 → ((i144 : Int) = 231 → ∃ i159 : Int, ∃ (p160 : Option Addr) (n161 c162 : Nat), ldN h146 h139.next 0 2 = some ([(.int .i64 i159), (.slice p160 n161 c162)] : List Value) ∧
    (Wf Tryz.prog K 12 [(.agg #[(.int .i64 i159), (.slice p160 n161 c162)]), (.agg #[(.int .i64 0), (.slice none 0 0)])] h146 fun r163 h164 =>
    (((r163 = (.bool true) ∧
    (Q (.bool true) h164)) ∨ (r163 = (.bool false) ∧
    (Q (.bool false) h164)))))) ∧
    (¬ (i144 : Int) = 231 → Q (.bool false) h146)))))))) ∨ (r131 = (.bool false) ∧
    (Q (.bool false) h132))))))) ∧
    (¬ (i120 : Int) = 0 → Q (.bool false) h122))))) ∧
    (¬ (i18 : Int) = 0 → ∀ h165 : AH, h165 = h113.alloc (.cells ([] : List Value) 5 false) →
    ∃ (p166 : Option Addr) (n167 c168 : Nat) (h169 : AH), aBuiltin Tryz.prog h165 .append #[26, 26] [(.slice (some ⟨h113.next, 0, none⟩) 0 0), (.slice pa1 na1 ca1)] = some (.slice p166 n167 c168, h169) ∧
    (Wf Tryz.prog K 13 [(.slice p166 n167 c168)] h169 fun r170 h171 =>
    (∃ i172 : Int, ∃ (p173 : Option Addr) (n174 c175 : Nat), ∃ i176 : Int, r170 = (.tuple #[(.agg #[(.int .i64 i172), (.slice p173 n174 c175)]), (.int .i64 i176)]) ∧
    (∀ h177 : AH, h177 = h171.alloc (.cells ([(.int .i64 0), (.slice none 0 0)] : List Value) 24 false) →
    (List.length ([(.int .i64 i172), (.slice p173 n174 c175)] : List Value) = 2) ∧ ∃ h178 : AH, stN h177 h171.next 0 ([(.int .i64 i172), (.slice p173 n174 c175)] : List Value) = some h178 ∧
    (((i176 : Int) = 0 → ∃ i179 : Int, ∃ (p180 : Option Addr) (n181 c182 : Nat), ldN h178 h171.next 0 2 = some ([(.int .i64 i179), (.slice p180 n181 c182)] : List Value) ∧
    (Wf Tryz.prog K 7 [(.agg #[(.int .i64 i179), (.slice p180 n181 c182)])] h178 fun r183 h184 =>
    (∃ (p185 : Option Addr) (n186 c187 : Nat), ∃ i188 : Int, r183 = (.tuple #[(.slice p185 n186 c187), (.int .i64 i188)]) ∧
    (((i188 : Int) = 0 → ∃ s189 : ByteArray, aConvert Tryz.prog h184 26 9 (.slice p185 n186 c187) = some (.string s189, h184) ∧
    (∃ s190 : ByteArray, aConvert Tryz.prog h184 26 9 (.slice pa1 na1 ca1) = some (.string s190, h184) ∧
    ((s189 = s190 → Q (.bool true) h184) ∧
    (¬ s189 = s190 → Q (.bool false) h184)))) ∧
    (¬ (i188 : Int) = 0 → Q (.bool false) h184))))) ∧
    (¬ (i176 : Int) = 0 → ((i176 : Int) = 231 → ∃ i191 : Int, ∃ (p192 : Option Addr) (n193 c194 : Nat), ldN h178 h171.next 0 2 = some ([(.int .i64 i191), (.slice p192 n193 c194)] : List Value) ∧
    (Wf Tryz.prog K 12 [(.agg #[(.int .i64 i191), (.slice p192 n193 c194)]), (.agg #[(.int .i64 0), (.slice none 0 0)])] h178 fun r195 h196 =>
    (((r195 = (.bool true) ∧
    (Q (.bool true) h196)) ∨ (r195 = (.bool false) ∧
    (Q (.bool false) h196)))))) ∧
    (¬ (i176 : Int) = 231 → Q (.bool false) h178)))))))))))))))))))) ∨ (r1 = (.bool false) ∧
    (Q (.bool false) h2))))) :
    Wf Tryz.prog K 5 [(.agg #[(.int .i64 ia0_0), (.slice pa0_1 na0_1 ca0_1)]), (.slice pa1 na1 ca1)] h Q :=
  vcF_sound (hs := []) hk (Eq.mpr (by kernel_rfl) H)
end Go.Am
