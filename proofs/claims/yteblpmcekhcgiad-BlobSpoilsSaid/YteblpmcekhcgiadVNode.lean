/-
  WEAKEST CONDITIONS of some functions of this program, printed by a program.
-/
import Derived.Test.YteblpmcekhcgiadAmG
import Derived.Test.YteblpmcekhcgiadRows
set_option linter.unusedVariables false
set_option maxRecDepth 100000
namespace Go.Am
open Go.Proofs
theorem vc_field_room {K : Xs} (hk : K 57 = none) (pa0 : Option Addr) (na0 ca0 : Nat) (h : AH) (Q : Value → AH → Prop) (H :
    ∃ I0 : Int → Int → Nat → AH → Prop, (∃ n, I0 0 0 n h) ∧
    ∀ (k1 : Nat) (h2 : AH) (i4 : Int) (i5 : Int), I0 i4 i5 k1 h2 →
    ((i5 : Int) < ((na0 : Nat) : Int) → derefP pa0 fun b6 o7 => (((0 : Int) ≤ i5) ∧ ((i5 : Int) < ((na0 : Nat) : Int)) ∧
    (∃ i8 : Int, ld1 h2 b6 (o7 + Int.toNat i5 * 1) = some (.int .i64 i8) ∧
    (((i8 : Int) < 1 → Q (.tuple #[(.int .i64 0), (.bool false)]) h2) ∧
    (¬ (i8 : Int) < 1 → ((8 : Int) < i8 → Q (.tuple #[(.int .i64 0), (.bool false)]) h2) ∧
    (¬ (8 : Int) < i8 → ∀ i9 : Int, i9 = IntKind.wrap .i64 (i4 + i8) → ∀ i10 : Int, i10 = IntKind.wrap .i64 (i5 + 1) → ∃ j3, j3 < k1 ∧ I0 i9 i10 j3 h2)))))) ∧
    (¬ (i5 : Int) < ((na0 : Nat) : Int) → Q (.tuple #[(.int .i64 i4), (.bool true)]) h2)) :
    Wf Try.prog K 57 [(.slice pa0 na0 ca0)] h Q :=
  vcF_sound (hs := [(3, [(4, .int .i64 0), (9, .int .i64 0)])]) hk (Eq.mpr (by kernel_rfl) H)
theorem vc_field_Put {K : Xs} (hk : K 50 = none) (pa0 : Option Addr) (na0 ca0 : Nat) (pa1 : Option Addr) (na1 ca1 : Nat) (h : AH) (Q : Value → AH → Prop) (H :
    Wf Try.prog K 57 [(.slice pa0 na0 ca0)] h fun r0 h1 =>
    (∃ i2 : Int, ((r0 = (.tuple #[(.int .i64 i2), (.bool true)]) ∧
    (((((na1 : Nat) : Int) : Int) = ((na0 : Nat) : Int) → ∃ I3 : Int → Nat → AH → Prop, (∃ n, I3 0 n h1) ∧
    ∀ (k4 : Nat) (h5 : AH) (i7 : Int), I3 i7 k4 h5 →
    ((i7 : Int) < ((na1 : Nat) : Int) → derefP pa1 fun b8 o9 => (((0 : Int) ≤ i7) ∧ ((i7 : Int) < ((na1 : Nat) : Int)) ∧
    (∃ i10 : Int, ld1 h5 b8 (o9 + Int.toNat i7 * 1) = some (.int .u64 i10) ∧
    (derefP pa0 fun b11 o12 => (((0 : Int) ≤ i7) ∧ ((i7 : Int) < ((na0 : Nat) : Int)) ∧
    (∃ i13 : Int, ld1 h5 b11 (o12 + Int.toNat i7 * 1) = some (.int .i64 i13) ∧
    (∀ i14 : Int, i14 = IntKind.wrap .i64 (8 * i13) → ∃ i15 : Int, aShift .shr .u64 i10 i14 = some (.int .u64 i15) ∧
    (((i15 : Int) = 0 → ∀ i16 : Int, i16 = IntKind.wrap .i64 (i7 + 1) → ∃ j6, j6 < k4 ∧ I3 i16 j6 h5) ∧
    (¬ (i15 : Int) = 0 → Q (.tuple #[(.slice none 0 0), (.int .i64 21)]) h5))))))))) ∧
    (¬ (i7 : Int) < ((na1 : Nat) : Int) → ((0 : Int) ≤ 0 ∧ (0 : Int) ≤ i2 ∧ (i2 : Int) ≤ 9223372036854775807 ∧ (1 : Int) * i2 ≤ 281474976710656) ∧ ∀ h17 : AH, h17 = h5.alloc (.cells ((List.replicate (Int.toNat i2) ([(.int .u8 0)] : List Value)).flatten) 5 false) →
    ∃ I18 : Option Addr → Nat → Nat → Int → Nat → AH → Prop, (∃ n, I18 (some ⟨h5.next, 0, none⟩) (Int.toNat 0) (Int.toNat i2) 0 n h17) ∧
    ∀ (k19 : Nat) (h20 : AH) (p22 : Option Addr) (n23 : Nat) (c24 : Nat) (i25 : Int), I18 p22 n23 c24 i25 k19 h20 →
    ((i25 : Int) < ((na1 : Nat) : Int) → derefP pa1 fun b26 o27 => (((0 : Int) ≤ i25) ∧ ((i25 : Int) < ((na1 : Nat) : Int)) ∧
    (∃ i28 : Int, ld1 h20 b26 (o27 + Int.toNat i25 * 1) = some (.int .u64 i28) ∧
    (derefP pa0 fun b29 o30 => (((0 : Int) ≤ i25) ∧ ((i25 : Int) < ((na0 : Nat) : Int)) ∧
    (∃ i31 : Int, ld1 h20 b29 (o30 + Int.toNat i25 * 1) = some (.int .i64 i31) ∧
    (∃ I32 : Option Addr → Nat → Nat → Int → Nat → AH → Prop, (∃ n, I32 p22 n23 c24 0 n h20) ∧
    ∀ (k33 : Nat) (h34 : AH) (p36 : Option Addr) (n37 : Nat) (c38 : Nat) (i39 : Int), I32 p36 n37 c38 i39 k33 h34 →
    ((i39 : Int) < i31 → ∀ i40 : Int, i40 = IntKind.wrap .i64 (8 * i39) → ∃ i41 : Int, aShift .shr .u64 i28 i40 = some (.int .u64 i41) ∧
    (∀ i42 : Int, i42 = IntKind.wrap .u8 i41 → ∀ h43 : AH, h43 = h34.alloc (.cells ([(.int .u8 i42)] : List Value) 5 false) →
    ∃ (p44 : Option Addr) (n45 c46 : Nat) (h47 : AH), aBuiltin Try.prog h43 .append #[22, 22] [(.slice p36 n37 c38), (.slice (some ⟨h34.next, 0, none⟩) 1 1)] = some (.slice p44 n45 c46, h47) ∧
    (∀ i48 : Int, i48 = IntKind.wrap .i64 (i39 + 1) → ∃ j35, j35 < k33 ∧ I32 p44 n45 c46 i48 j35 h47))) ∧
    (¬ (i39 : Int) < i31 → ∀ i49 : Int, i49 = IntKind.wrap .i64 (i25 + 1) → ∃ j21, j21 < k19 ∧ I18 p36 n37 c38 i49 j21 h34)))))))) ∧
    (¬ (i25 : Int) < ((na1 : Nat) : Int) → Q (.tuple #[(.slice p22 n23 c24), (.int .i64 0)]) h20))) ∧
    (¬ (((na1 : Nat) : Int) : Int) = ((na0 : Nat) : Int) → Q (.tuple #[(.slice none 0 0), (.int .i64 21)]) h1))) ∨ (r0 = (.tuple #[(.int .i64 i2), (.bool false)]) ∧
    (Q (.tuple #[(.slice none 0 0), (.int .i64 21)]) h1))))) :
    Wf Try.prog K 50 [(.slice pa0 na0 ca0), (.slice pa1 na1 ca1)] h Q :=
  vcF_sound (hs := [(5, [(30, .int .i64 0)]), (12, [(10, .slice none 0 0), (48, .int .i64 0)]), (15, [(10, .slice none 0 0), (57, .int .i64 0)])]) hk (Eq.mpr (by kernel_rfl) H)
theorem vc_field_Get {K : Xs} (hk : K 52 = none) (pa0 : Option Addr) (na0 ca0 : Nat) (pa1 : Option Addr) (na1 ca1 : Nat) (h : AH) (Q : Value → AH → Prop) (H :
    Wf Try.prog K 57 [(.slice pa0 na0 ca0)] h fun r0 h1 =>
    (∃ i2 : Int, ((r0 = (.tuple #[(.int .i64 i2), (.bool true)]) ∧
    (((((na1 : Nat) : Int) : Int) = i2 → ((0 : Int) ≤ 0 ∧ (0 : Int) ≤ ((na0 : Nat) : Int) ∧ (((na0 : Nat) : Int) : Int) ≤ 9223372036854775807 ∧ (8 : Int) * ((na0 : Nat) : Int) ≤ 281474976710656) ∧ ∀ h3 : AH, h3 = h1.alloc (.cells ((List.replicate (Int.toNat ((na0 : Nat) : Int)) ([(.int .u64 0)] : List Value)).flatten) 33 false) →
    ∃ I4 : Option Addr → Nat → Nat → Option Addr → Nat → Nat → Int → Nat → AH → Prop, (∃ n, I4 pa1 na1 ca1 (some ⟨h1.next, 0, none⟩) (Int.toNat 0) (Int.toNat ((na0 : Nat) : Int)) 0 n h3) ∧
    ∀ (k5 : Nat) (h6 : AH) (p8 : Option Addr) (n9 : Nat) (c10 : Nat) (p11 : Option Addr) (n12 : Nat) (c13 : Nat) (i14 : Int), I4 p8 n9 c10 p11 n12 c13 i14 k5 h6 →
    ((i14 : Int) < ((na0 : Nat) : Int) → derefP pa0 fun b15 o16 => (((0 : Int) ≤ i14) ∧ ((i14 : Int) < ((na0 : Nat) : Int)) ∧
    (∃ i17 : Int, ld1 h6 b15 (o16 + Int.toNat i14 * 1) = some (.int .i64 i17) ∧
    (∃ I18 : Int → Int → Nat → AH → Prop, (∃ n, I18 0 0 n h6) ∧
    ∀ (k19 : Nat) (h20 : AH) (i22 : Int) (i23 : Int), I18 i22 i23 k19 h20 →
    ((i23 : Int) < i17 → derefP p8 fun b24 o25 => (((0 : Int) ≤ i23) ∧ ((i23 : Int) < ((n9 : Nat) : Int)) ∧
    (∃ i26 : Int, ld1 h20 b24 (o25 + Int.toNat i23 * 1) = some (.int .u8 i26) ∧
    (∀ i27 : Int, i27 = IntKind.wrap .u64 i26 → ∀ i28 : Int, i28 = IntKind.wrap .i64 (8 * i23) → ∃ i29 : Int, aShift .shl .u64 i27 i28 = some (.int .u64 i29) ∧
    (∃ i30 : Int, aInt .or .u64 i22 i29 = some (.int .u64 i30) ∧
    (∀ i31 : Int, i31 = IntKind.wrap .i64 (i23 + 1) → ∃ j21, j21 < k19 ∧ I18 i30 i31 j21 h20)))))) ∧
    (¬ (i23 : Int) < i17 → ∀ h32 : AH, h32 = h20.alloc (.cells ([(.int .u64 i22)] : List Value) 33 false) →
    ∃ (p33 : Option Addr) (n34 c35 : Nat) (h36 : AH), aBuiltin Try.prog h32 .append #[110, 110] [(.slice p11 n12 c13), (.slice (some ⟨h20.next, 0, none⟩) 1 1)] = some (.slice p33 n34 c35, h36) ∧
    (∃ (p37 : Option Addr) (n38 c39 : Nat), aSlice Try.prog h36 22 (.slice p8 n9 c10) (some (.int .i64 i17)) none none = some (.slice p37 n38 c39) ∧
    (∀ i40 : Int, i40 = IntKind.wrap .i64 (i14 + 1) → ∃ j7, j7 < k5 ∧ I4 p37 n38 c39 p33 n34 c35 i40 j7 h36))))))) ∧
    (¬ (i14 : Int) < ((na0 : Nat) : Int) → Q (.tuple #[(.slice p11 n12 c13), (.int .i64 0)]) h6)) ∧
    (¬ (((na1 : Nat) : Int) : Int) = i2 → Q (.tuple #[(.slice none 0 0), (.int .i64 21)]) h1))) ∨ (r0 = (.tuple #[(.int .i64 i2), (.bool false)]) ∧
    (Q (.tuple #[(.slice none 0 0), (.int .i64 21)]) h1))))) :
    Wf Try.prog K 52 [(.slice pa0 na0 ca0), (.slice pa1 na1 ca1)] h Q :=
  vcF_sound (hs := [(6, [(1, .slice none 0 0), (8, .slice none 0 0), (31, .int .i64 0)]), (10, [(11, .int .u64 0), (36, .int .i64 0)])]) hk (Eq.mpr (by kernel_rfl) H)
theorem vc_ptr_widths {K : Xs} (hk : K 51 = none)  (h : AH) (Q : Value → AH → Prop) (H :
    ∀ h0 : AH, h0 = h.alloc (.cells ([(.int .i64 4), (.int .i64 8), (.int .i64 4)] : List Value) 3 false) →
    Q (.slice (some ⟨h.next, 0, none⟩) 3 3) h0) :
    Wf Try.prog K 51 [] h Q :=
  vcF_sound (hs := []) hk (Eq.mpr (by kernel_rfl) H)
theorem vc_ptr_Right {K : Xs} (hk : K 49 = none) (ia0_0 : Int) (ia0_1 : Int) (ia0_2 : Int) (h : AH) (Q : Value → AH → Prop) (H :
    ∀ h0 : AH, h0 = h.alloc (.cells ([(.int .i64 ia0_0), (.int .u64 ia0_1), (.int .u32 ia0_2)] : List Value) 36 false) →
    ∃ i1 : Int, ∃ i2 : Int, ∃ i3 : Int, ldN h0 h.next 0 3 = some ([(.int .i64 i1), (.int .u64 i2), (.int .u32 i3)] : List Value) ∧
    (∃ la4 lb5, keyA Try.prog 36 (.agg #[(.int .i64 i1), (.int .u64 i2), (.int .u32 i3)]) = some la4 ∧ keyA Try.prog 36 (.agg #[(.int .i64 0), (.int .u64 0), (.int .u32 0)]) = some lb5 ∧
    (litsEq la4 lb5 = true → Q (.bool true) h0) ∧
    (litsEq la4 lb5 = false → ∃ i6 : Int, ld1 h0 h.next 0 = some (.int .i64 i6) ∧
    (((4 : Int) ≤ i6 → ∃ i7 : Int, ld1 h0 h.next 0 = some (.int .i64 i7) ∧
    (((i7 : Int) < 1024 → ∃ i8 : Int, ld1 h0 h.next 1 = some (.int .u64 i8) ∧
    (((1 : Int) ≤ i8 → ∃ i9 : Int, ld1 h0 h.next 1 = some (.int .u64 i9) ∧
    (((i9 : Int) ≤ 281474976710655 → Q (.bool true) h0) ∧
    (¬ (i9 : Int) ≤ 281474976710655 → Q (.bool false) h0))) ∧
    (¬ (1 : Int) ≤ i8 → Q (.bool false) h0))) ∧
    (¬ (i7 : Int) < 1024 → Q (.bool false) h0))) ∧
    (¬ (4 : Int) ≤ i6 → Q (.bool false) h0))))) :
    Wf Try.prog K 49 [(.agg #[(.int .i64 ia0_0), (.int .u64 ia0_1), (.int .u32 ia0_2)])] h Q :=
  vcF_sound (hs := []) hk (Eq.mpr (by kernel_rfl) H)
theorem vc_ptr_Bytes {K : Xs} (hk : K 44 = none) (ia0_0 : Int) (ia0_1 : Int) (ia0_2 : Int) (h : AH) (Q : Value → AH → Prop) (H :
    ∀ h0 : AH, h0 = h.alloc (.cells ([(.int .i64 ia0_0), (.int .u64 ia0_1), (.int .u32 ia0_2)] : List Value) 36 false) →
    ∃ i1 : Int, ∃ i2 : Int, ∃ i3 : Int, ldN h0 h.next 0 3 = some ([(.int .i64 i1), (.int .u64 i2), (.int .u32 i3)] : List Value) ∧
    (Wf Try.prog K 49 [(.agg #[(.int .i64 i1), (.int .u64 i2), (.int .u32 i3)])] h0 fun r4 h5 =>
    (((r4 = (.bool true) ∧
    (Wf Try.prog K 51 [] h5 fun r6 h7 =>
    (∃ (p8 : Option Addr) (n9 c10 : Nat), r6 = (.slice p8 n9 c10) ∧
    (∃ i11 : Int, ld1 h7 h.next 0 = some (.int .i64 i11) ∧
    (∀ i12 : Int, i12 = IntKind.wrap .u64 i11 → ∃ i13 : Int, ld1 h7 h.next 1 = some (.int .u64 i13) ∧
    (∃ i14 : Int, ld1 h7 h.next 2 = some (.int .u32 i14) ∧
    (∀ i15 : Int, i15 = IntKind.wrap .u64 i14 → ∀ h16 : AH, h16 = h7.alloc (.cells ([(.int .u64 i12), (.int .u64 i13), (.int .u64 i15)] : List Value) 33 false) →
    Wf Try.prog K 50 [(.slice p8 n9 c10), (.slice (some ⟨h7.next, 0, none⟩) 3 3)] h16 fun r17 h18 =>
    (∃ (p19 : Option Addr) (n20 c21 : Nat), ∃ i22 : Int, r17 = (.tuple #[(.slice p19 n20 c21), (.int .i64 i22)]) ∧
    ((ld1 h5 h.next 0 = some (.int .i64 i11)) ∧
    ((ld1 h7 h.next 0 = some (.int .i64 i11)) ∧
    ((ld1 h5 h.next 1 = some (.int .u64 i13)) ∧
    ((ld1 h7 h.next 1 = some (.int .u64 i13)) ∧
    ((ld1 h5 h.next 2 = some (.int .u32 i14)) ∧
    ((ld1 h7 h.next 2 = some (.int .u32 i14)) ∧
    (((i22 : Int) = 0 → Q (.tuple #[(.slice p19 n20 c21), (.int .i64 0)]) h18) ∧
    (¬ (i22 : Int) = 0 → Q (.tuple #[(.slice none 0 0), (.int .i64 51)]) h18)))))))))))))))) ∨ (r4 = (.bool false) ∧
    (Q (.tuple #[(.slice none 0 0), (.int .i64 51)]) h5)))))) :
    Wf Try.prog K 44 [(.agg #[(.int .i64 ia0_0), (.int .u64 ia0_1), (.int .u32 ia0_2)])] h Q :=
  vcF_sound (hs := []) hk (Eq.mpr (by kernel_rfl) H)
theorem vc_ptr_Read {K : Xs} (hk : K 45 = none) (pa0 : Option Addr) (na0 ca0 : Nat) (h : AH) (Q : Value → AH → Prop) (H :
    ∀ h0 : AH, h0 = h.alloc (.cells ([(.int .i64 0), (.int .u64 0), (.int .u32 0)] : List Value) 36 false) →
    Wf Try.prog K 51 [] h0 fun r1 h2 =>
    (∃ (p3 : Option Addr) (n4 c5 : Nat), r1 = (.slice p3 n4 c5) ∧
    (Wf Try.prog K 52 [(.slice p3 n4 c5), (.slice pa0 na0 ca0)] h2 fun r6 h7 =>
    (∃ (p8 : Option Addr) (n9 c10 : Nat), ∃ i11 : Int, r6 = (.tuple #[(.slice p8 n9 c10), (.int .i64 i11)]) ∧
    (((i11 : Int) = 0 → derefP p8 fun b12 o13 => (((0 : Int) ≤ 0) ∧ ((0 : Int) < ((n9 : Nat) : Int)) ∧
    (∃ i14 : Int, ld1 h7 b12 o13 = some (.int .u64 i14) ∧
    (∀ i15 : Int, i15 = IntKind.wrap .i64 i14 → derefP p8 fun b16 o17 => (((0 : Int) ≤ 1) ∧ ((1 : Int) < ((n9 : Nat) : Int)) ∧
    (∃ i18 : Int, ld1 h7 b16 (o17 + 1) = some (.int .u64 i18) ∧
    (derefP p8 fun b19 o20 => (((0 : Int) ≤ 2) ∧ ((2 : Int) < ((n9 : Nat) : Int)) ∧
    (∃ i21 : Int, ld1 h7 b19 (o20 + 2) = some (.int .u64 i21) ∧
    (∀ i22 : Int, i22 = IntKind.wrap .u32 i21 → ∀ h23 : AH, h23 = h7.alloc (.cells ([(.int .i64 0), (.int .u64 0), (.int .u32 0)] : List Value) 36 false) →
    (List.length ([(.int .i64 i15), (.int .u64 i18), (.int .u32 i22)] : List Value) = 3) ∧ ∃ h24 : AH, stN h23 h7.next 0 ([(.int .i64 i15), (.int .u64 i18), (.int .u32 i22)] : List Value) = some h24 ∧
    (∃ i25 : Int, ∃ i26 : Int, ∃ i27 : Int, ldN h24 h7.next 0 3 = some ([(.int .i64 i25), (.int .u64 i26), (.int .u32 i27)] : List Value) ∧
    (Wf Try.prog K 49 [(.agg #[(.int .i64 i25), (.int .u64 i26), (.int .u32 i27)])] h24 fun r28 h29 =>
    (((r28 = (.bool true) ∧
    (∃ i30 : Int, ∃ i31 : Int, ∃ i32 : Int, ldN h29 h7.next 0 3 = some ([(.int .i64 i30), (.int .u64 i31), (.int .u32 i32)] : List Value) ∧
    ((List.length ([(.int .i64 i30), (.int .u64 i31), (.int .u32 i32)] : List Value) = 3) ∧ ∃ h33 : AH, stN h29 h.next 0 ([(.int .i64 i30), (.int .u64 i31), (.int .u32 i32)] : List Value) = some h33 ∧
    (∃ i34 : Int, ∃ i35 : Int, ∃ i36 : Int, ldN h33 h.next 0 3 = some ([(.int .i64 i34), (.int .u64 i35), (.int .u32 i36)] : List Value) ∧
    (Q (.tuple #[(.agg #[(.int .i64 i34), (.int .u64 i35), (.int .u32 i36)]), (.int .i64 0)]) h33))))) ∨ (r28 = (.bool false) ∧
    ((List.length ([(.int .i64 0), (.int .u64 0), (.int .u32 0)] : List Value) = 3) ∧ ∃ h37 : AH, stN h29 h.next 0 ([(.int .i64 0), (.int .u64 0), (.int .u32 0)] : List Value) = some h37 ∧
    (∃ i38 : Int, ∃ i39 : Int, ∃ i40 : Int, ldN h37 h.next 0 3 = some ([(.int .i64 i38), (.int .u64 i39), (.int .u32 i40)] : List Value) ∧
    (Q (.tuple #[(.agg #[(.int .i64 i38), (.int .u64 i39), (.int .u32 i40)]), (.int .i64 51)]) h37)))))))))))))))))) ∧
    (¬ (i11 : Int) = 0 → (List.length ([(.int .i64 0), (.int .u64 0), (.int .u32 0)] : List Value) = 3) ∧ ∃ h41 : AH, stN h7 h.next 0 ([(.int .i64 0), (.int .u64 0), (.int .u32 0)] : List Value) = some h41 ∧
    (∃ i42 : Int, ∃ i43 : Int, ∃ i44 : Int, ldN h41 h.next 0 3 = some ([(.int .i64 i42), (.int .u64 i43), (.int .u32 i44)] : List Value) ∧
    (Q (.tuple #[(.agg #[(.int .i64 i42), (.int .u64 i43), (.int .u32 i44)]), (.int .i64 51)]) h41)))))))) :
    Wf Try.prog K 45 [(.slice pa0 na0 ca0)] h Q :=
  vcF_sound (hs := []) hk (Eq.mpr (by kernel_rfl) H)
theorem vc_node_Bytes {K : Xs} (hk : K 36 = none) (la0 : List Value) (h : AH) (Q : Value → AH → Prop) (H :
    ∀ h0 : AH, h0 = h.alloc (.cells la0 91 false) →
    ∀ h1 : AH, h1 = h0.alloc (.cells (List.replicate 128 (.int .u8 0) : List Value) 46 false) →
    ∀ h2 : AH, h2 = h1.alloc (.cells (List.replicate 128 (.int .u8 0) : List Value) 46 false) →
    ∃ l3 : List Value, ldN h2 h.next 0 24 = some l3 ∧
    (∃ I4 : Int → Nat → AH → Prop, (∃ n, I4 0 n h2) ∧
    ∀ (k5 : Nat) (h6 : AH) (i8 : Int), I4 i8 k5 h6 →
    ((i8 : Int) < 8 → ((0 : Int) ≤ i8) ∧ ((i8 : Int) < 8) ∧ (∃ i9 : Int, ∃ i10 : Int, ∃ i11 : Int, (List.take 3 (List.drop (Int.toNat i8 * 3) l3)) = ([(.int .i64 i9), (.int .u64 i10), (.int .u32 i11)] : List Value) ∧
    (∀ h12 : AH, h12 = h6.alloc (.cells ([(.int .i64 0), (.int .u64 0), (.int .u32 0)] : List Value) 36 false) →
    (List.length ([(.int .i64 i9), (.int .u64 i10), (.int .u32 i11)] : List Value) = 3) ∧ ∃ h13 : AH, stN h12 h6.next 0 ([(.int .i64 i9), (.int .u64 i10), (.int .u32 i11)] : List Value) = some h13 ∧
    (∃ i14 : Int, ∃ i15 : Int, ∃ i16 : Int, ldN h13 h6.next 0 3 = some ([(.int .i64 i14), (.int .u64 i15), (.int .u32 i16)] : List Value) ∧
    (Wf Try.prog K 44 [(.agg #[(.int .i64 i14), (.int .u64 i15), (.int .u32 i16)])] h13 fun r17 h18 =>
    (∃ (p19 : Option Addr) (n20 c21 : Nat), ∃ i22 : Int, r17 = (.tuple #[(.slice p19 n20 c21), (.int .i64 i22)]) ∧
    (((i22 : Int) = 0 → ∀ i23 : Int, i23 = IntKind.wrap .i64 (i8 * 16) → ∀ i24 : Int, i24 = IntKind.wrap .i64 (i8 + 1) → ∀ i25 : Int, i25 = IntKind.wrap .i64 (i24 * 16) → ∃ (p26 : Option Addr) (n27 c28 : Nat), aSlice Try.prog h18 46 (.pointer (some ⟨h1.next, 0, none⟩)) (some (.int .i64 i23)) (some (.int .i64 i25)) none = some (.slice p26 n27 c28) ∧
    (∃ (i29 : Int) (h30 : AH), aBuiltin Try.prog h18 .copy #[22, 22] [(.slice p26 n27 c28), (.slice p19 n20 c21)] = some (.int .i64 i29, h30) ∧
    (∀ i31 : Int, i31 = IntKind.wrap .i64 (i8 + 1) → ∃ j7, j7 < k5 ∧ I4 i31 j7 h30))) ∧
    (¬ (i22 : Int) = 0 → ∃ l32 : List Value, aBuild Try.prog 46 #[] = some (.agg l32.toArray) ∧
    ((List.length l32 = 128) ∧ ∃ h33 : AH, stN h18 h0.next 0 l32 = some h33 ∧
    (∃ l34 : List Value, ldN h33 h0.next 0 128 = some l34 ∧
    (Q (.tuple #[(.agg l34.toArray), (.int .i64 51)]) h33))))))))))) ∧
    (¬ (i8 : Int) < 8 → ∃ l35 : List Value, ldN h6 h1.next 0 128 = some l35 ∧
    ((List.length l35 = 128) ∧ ∃ h36 : AH, stN h6 h0.next 0 l35 = some h36 ∧
    (∃ l37 : List Value, ldN h36 h0.next 0 128 = some l37 ∧
    (Q (.tuple #[(.agg l37.toArray), (.int .i64 0)]) h36)))))) :
    Wf Try.prog K 36 [(.agg la0.toArray)] h Q :=
  vcF_sound (hs := [(3, [(10, .int .i64 0)])]) hk (Eq.mpr (by kernel_rfl) H)
theorem vc_node_Read {K : Xs} (hk : K 37 = none) (la0 : List Value) (h : AH) (Q : Value → AH → Prop) (H :
    ∀ h0 : AH, h0 = h.alloc (.cells la0 46 false) →
    ∀ h1 : AH, h1 = h0.alloc (.cells ([(.int .i64 0), (.int .u64 0), (.int .u32 0), (.int .i64 0), (.int .u64 0), (.int .u32 0), (.int .i64 0), (.int .u64 0), (.int .u32 0), (.int .i64 0), (.int .u64 0), (.int .u32 0), (.int .i64 0), (.int .u64 0), (.int .u32 0), (.int .i64 0), (.int .u64 0), (.int .u32 0), (.int .i64 0), (.int .u64 0), (.int .u32 0), (.int .i64 0), (.int .u64 0), (.int .u32 0)] : List Value) 91 false) →
    ∀ h2 : AH, h2 = h1.alloc (.cells ([(.int .i64 0), (.int .u64 0), (.int .u32 0), (.int .i64 0), (.int .u64 0), (.int .u32 0), (.int .i64 0), (.int .u64 0), (.int .u32 0), (.int .i64 0), (.int .u64 0), (.int .u32 0), (.int .i64 0), (.int .u64 0), (.int .u32 0), (.int .i64 0), (.int .u64 0), (.int .u32 0), (.int .i64 0), (.int .u64 0), (.int .u32 0), (.int .i64 0), (.int .u64 0), (.int .u32 0)] : List Value) 91 false) →
    ∃ I3 : Int → Nat → AH → Prop, (∃ n, I3 0 n h2) ∧
    ∀ (k4 : Nat) (h5 : AH) (i7 : Int), I3 i7 k4 h5 →
    ((i7 : Int) < 8 → ∀ i8 : Int, i8 = IntKind.wrap .i64 (i7 * 16) → ∀ i9 : Int, i9 = IntKind.wrap .i64 (i7 + 1) → ∀ i10 : Int, i10 = IntKind.wrap .i64 (i9 * 16) → ∃ (p11 : Option Addr) (n12 c13 : Nat), aSlice Try.prog h5 46 (.pointer (some ⟨h.next, 0, none⟩)) (some (.int .i64 i8)) (some (.int .i64 i10)) none = some (.slice p11 n12 c13) ∧
    (Wf Try.prog K 45 [(.slice p11 n12 c13)] h5 fun r14 h15 =>
    (∃ i16 : Int, ∃ i17 : Int, ∃ i18 : Int, ∃ i19 : Int, r14 = (.tuple #[(.agg #[(.int .i64 i16), (.int .u64 i17), (.int .u32 i18)]), (.int .i64 i19)]) ∧
    (∀ h20 : AH, h20 = h15.alloc (.cells ([(.int .i64 0), (.int .u64 0), (.int .u32 0)] : List Value) 36 false) →
    (List.length ([(.int .i64 i16), (.int .u64 i17), (.int .u32 i18)] : List Value) = 3) ∧ ∃ h21 : AH, stN h20 h15.next 0 ([(.int .i64 i16), (.int .u64 i17), (.int .u32 i18)] : List Value) = some h21 ∧
    (((i19 : Int) = 0 → ∃ i22 : Int, ∃ i23 : Int, ∃ i24 : Int, ldN h21 h15.next 0 3 = some ([(.int .i64 i22), (.int .u64 i23), (.int .u32 i24)] : List Value) ∧
    (((0 : Int) ≤ i7) ∧ ((i7 : Int) < 8) ∧
    ((List.length ([(.int .i64 i22), (.int .u64 i23), (.int .u32 i24)] : List Value) = 3) ∧ ∃ h25 : AH, stN h21 h1.next (0 + Int.toNat i7 * 3) ([(.int .i64 i22), (.int .u64 i23), (.int .u32 i24)] : List Value) = some h25 ∧
    (∀ i26 : Int, i26 = IntKind.wrap .i64 (i7 + 1) → ∃ j6, j6 < k4 ∧ I3 i26 j6 h25)))) ∧
    (¬ (i19 : Int) = 0 → ∃ l27 : List Value, aBuild Try.prog 91 #[] = some (.agg l27.toArray) ∧
    ((List.length l27 = 24) ∧ ∃ h28 : AH, stN h21 h0.next 0 l27 = some h28 ∧
    (∃ l29 : List Value, ldN h28 h0.next 0 24 = some l29 ∧
    (Q (.tuple #[(.agg l29.toArray), (.int .i64 51)]) h28))))))))) ∧
    (¬ (i7 : Int) < 8 → ∃ l30 : List Value, ldN h5 h1.next 0 24 = some l30 ∧
    ((List.length l30 = 24) ∧ ∃ h31 : AH, stN h5 h0.next 0 l30 = some h31 ∧
    (∃ l32 : List Value, ldN h31 h0.next 0 24 = some l32 ∧
    (Q (.tuple #[(.agg l32.toArray), (.int .i64 0)]) h31))))) :
    Wf Try.prog K 37 [(.agg la0.toArray)] h Q :=
  vcF_sound (hs := [(3, [(8, .int .i64 0)])]) hk (Eq.mpr (by kernel_rfl) H)
end Go.Am
