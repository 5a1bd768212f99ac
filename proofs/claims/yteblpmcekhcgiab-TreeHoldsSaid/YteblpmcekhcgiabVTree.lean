/-
  WEAKEST CONDITIONS of some functions of this program, printed by a program.
-/
import Derived.Test.YteblpmcekhcgiabAmG
import Derived.Test.YteblpmcekhcgiabRows
set_option linter.unusedVariables false
set_option maxRecDepth 100000
namespace Go.Am
open Go.Proofs
theorem vc_tree_within {K : Xs} (hk : K 57 = none) (ia0 : Int) (h : AH) (Q : Value → AH → Prop) (H :
    ((0 : Int) ≤ ia0 → ((ia0 : Int) < 64 → Q (.bool true) h) ∧
    (¬ (ia0 : Int) < 64 → Q (.bool false) h)) ∧
    (¬ (0 : Int) ≤ ia0 → Q (.bool false) h)) :
    Wf Try.prog K 57 [(.int .i64 ia0)] h Q :=
  vcF_sound (hs := []) hk (Eq.mpr (by kernel_rfl) H)
theorem vc_tree_load {K : Xs} (hk : K 64 = none) (pa0 : Option Addr) (ia1_0 : Int) (ia1_1 : Int) (ia1_2 : Int) (h : AH) (Q : Value → AH → Prop) (H :
    ∀ h0 : AH, h0 = h.alloc (.cells ([(.int .i64 ia1_0), (.int .u64 ia1_1), (.int .u32 ia1_2)] : List Value) 28 false) →
    ∀ h1 : AH, h1 = h0.alloc (.cells ([(.int .i64 0), (.int .u64 0), (.int .u32 0), (.int .i64 0), (.int .u64 0), (.int .u32 0), (.int .i64 0), (.int .u64 0), (.int .u32 0), (.int .i64 0), (.int .u64 0), (.int .u32 0), (.int .i64 0), (.int .u64 0), (.int .u32 0), (.int .i64 0), (.int .u64 0), (.int .u32 0), (.int .i64 0), (.int .u64 0), (.int .u32 0), (.int .i64 0), (.int .u64 0), (.int .u32 0)] : List Value) 104 false) →
    ∃ i2 : Int, ∃ i3 : Int, ∃ i4 : Int, ldN h1 h.next 0 3 = some ([(.int .i64 i2), (.int .u64 i3), (.int .u32 i4)] : List Value) ∧
    (Wf Try.prog K 63 [(.pointer pa0), (.agg #[(.int .i64 i2), (.int .u64 i3), (.int .u32 i4)])] h1 fun r5 h6 =>
    (∃ l7 : List Value, ∃ i8 : Int, r5 = (.tuple #[(.agg l7.toArray), (.int .i64 i8)]) ∧
    (∀ h9 : AH, h9 = h6.alloc (.cells (List.replicate 128 (.int .u8 0) : List Value) 57 false) →
    (List.length l7 = 128) ∧ ∃ h10 : AH, stN h9 h6.next 0 l7 = some h10 ∧
    (((i8 : Int) = 0 → ∃ l11 : List Value, ldN h10 h6.next 0 128 = some l11 ∧
    (Wf Try.prog K 81 [(.agg l11.toArray)] h10 fun r12 h13 =>
    (∃ l14 : List Value, ∃ i15 : Int, r12 = (.tuple #[(.agg l14.toArray), (.int .i64 i15)]) ∧
    (∀ h16 : AH, h16 = h13.alloc (.cells ([(.int .i64 0), (.int .u64 0), (.int .u32 0), (.int .i64 0), (.int .u64 0), (.int .u32 0), (.int .i64 0), (.int .u64 0), (.int .u32 0), (.int .i64 0), (.int .u64 0), (.int .u32 0), (.int .i64 0), (.int .u64 0), (.int .u32 0), (.int .i64 0), (.int .u64 0), (.int .u32 0), (.int .i64 0), (.int .u64 0), (.int .u32 0), (.int .i64 0), (.int .u64 0), (.int .u32 0)] : List Value) 104 false) →
    (List.length l14 = 24) ∧ ∃ h17 : AH, stN h16 h13.next 0 l14 = some h17 ∧
    (((i15 : Int) = 0 → ∃ l18 : List Value, ldN h17 h13.next 0 24 = some l18 ∧
    ((List.length l18 = 24) ∧ ∃ h19 : AH, stN h17 h0.next 0 l18 = some h19 ∧
    (∃ l20 : List Value, ldN h19 h0.next 0 24 = some l20 ∧
    (Q (.tuple #[(.agg l20.toArray), (.int .i64 0)]) h19)))) ∧
    (¬ (i15 : Int) = 0 → ∃ l21 : List Value, aBuild Try.prog 104 #[] = some (.agg l21.toArray) ∧
    ((List.length l21 = 24) ∧ ∃ h22 : AH, stN h17 h0.next 0 l21 = some h22 ∧
    (∃ l23 : List Value, ldN h22 h0.next 0 24 = some l23 ∧
    (Q (.tuple #[(.agg l23.toArray), (.int .i64 91)]) h22))))))))) ∧
    (¬ (i8 : Int) = 0 → ∃ l24 : List Value, aBuild Try.prog 104 #[] = some (.agg l24.toArray) ∧
    ((List.length l24 = 24) ∧ ∃ h25 : AH, stN h10 h0.next 0 l24 = some h25 ∧
    (∃ l26 : List Value, ldN h25 h0.next 0 24 = some l26 ∧
    (Q (.tuple #[(.agg l26.toArray), (.int .i64 i8)]) h25))))))))) :
    Wf Try.prog K 64 [(.pointer pa0), (.agg #[(.int .i64 ia1_0), (.int .u64 ia1_1), (.int .u32 ia1_2)])] h Q :=
  vcF_sound (hs := []) hk (Eq.mpr (by kernel_rfl) H)
theorem vc_tree_save {K : Xs} (hk : K 60 = none) (pa0 : Option Addr) (la1 : List Value) (h : AH) (Q : Value → AH → Prop) (H :
    ∀ h0 : AH, h0 = h.alloc (.cells la1 104 false) →
    ∀ h1 : AH, h1 = h0.alloc (.cells ([(.int .i64 0), (.int .u64 0), (.int .u32 0)] : List Value) 28 false) →
    ∃ l2 : List Value, ldN h1 h.next 0 24 = some l2 ∧
    (Wf Try.prog K 75 [(.agg l2.toArray)] h1 fun r3 h4 =>
    (∃ l5 : List Value, ∃ i6 : Int, r3 = (.tuple #[(.agg l5.toArray), (.int .i64 i6)]) ∧
    (∀ h7 : AH, h7 = h4.alloc (.cells (List.replicate 128 (.int .u8 0) : List Value) 57 false) →
    (List.length l5 = 128) ∧ ∃ h8 : AH, stN h7 h4.next 0 l5 = some h8 ∧
    (((i6 : Int) = 0 → ∃ (p9 : Option Addr) (n10 c11 : Nat), aSlice Try.prog h8 57 (.pointer (some ⟨h4.next, 0, none⟩)) none none none = some (.slice p9 n10 c11) ∧
    (Wf Try.prog K 62 [(.pointer pa0), (.slice p9 n10 c11)] h8 fun r12 h13 =>
    (∃ i14 : Int, ∃ i15 : Int, ∃ i16 : Int, ∃ i17 : Int, r12 = (.tuple #[(.agg #[(.int .i64 i14), (.int .u64 i15), (.int .u32 i16)]), (.int .i64 i17)]) ∧
    ((List.length ([(.int .i64 i14), (.int .u64 i15), (.int .u32 i16)] : List Value) = 3) ∧ ∃ h18 : AH, stN h13 h0.next 0 ([(.int .i64 i14), (.int .u64 i15), (.int .u32 i16)] : List Value) = some h18 ∧
    (∃ i19 : Int, ∃ i20 : Int, ∃ i21 : Int, ldN h18 h0.next 0 3 = some ([(.int .i64 i19), (.int .u64 i20), (.int .u32 i21)] : List Value) ∧
    (Q (.tuple #[(.agg #[(.int .i64 i19), (.int .u64 i20), (.int .u32 i21)]), (.int .i64 i17)]) h18)))))) ∧
    (¬ (i6 : Int) = 0 → (List.length ([(.int .i64 0), (.int .u64 0), (.int .u32 0)] : List Value) = 3) ∧ ∃ h22 : AH, stN h8 h0.next 0 ([(.int .i64 0), (.int .u64 0), (.int .u32 0)] : List Value) = some h22 ∧
    (∃ i23 : Int, ∃ i24 : Int, ∃ i25 : Int, ldN h22 h0.next 0 3 = some ([(.int .i64 i23), (.int .u64 i24), (.int .u32 i25)] : List Value) ∧
    (Q (.tuple #[(.agg #[(.int .i64 i23), (.int .u64 i24), (.int .u32 i25)]), (.int .i64 i6)]) h22)))))))) :
    Wf Try.prog K 60 [(.pointer pa0), (.agg la1.toArray)] h Q :=
  vcF_sound (hs := []) hk (Eq.mpr (by kernel_rfl) H)
theorem vc_tree_walk {K : Xs} (hk : K 58 = none) (pa0 : Option Addr) (ia1_0 : Int) (ia1_1 : Int) (ia1_2 : Int) (ia2 : Int) (h : AH) (Q : Value → AH → Prop) (H :
    ∀ h0 : AH, h0 = h.alloc (.cells ([(.int .i64 ia1_0), (.int .u64 ia1_1), (.int .u32 ia1_2)] : List Value) 28 false) →
    ∀ h1 : AH, h1 = h0.alloc (.cells ([(.int .i64 0), (.int .u64 0), (.int .u32 0), (.int .i64 0), (.int .u64 0), (.int .u32 0), (.int .i64 0), (.int .u64 0), (.int .u32 0), (.int .i64 0), (.int .u64 0), (.int .u32 0), (.int .i64 0), (.int .u64 0), (.int .u32 0), (.int .i64 0), (.int .u64 0), (.int .u32 0), (.int .i64 0), (.int .u64 0), (.int .u32 0), (.int .i64 0), (.int .u64 0), (.int .u32 0), (.int .i64 0), (.int .u64 0), (.int .u32 0), (.int .i64 0), (.int .u64 0), (.int .u32 0), (.int .i64 0), (.int .u64 0), (.int .u32 0), (.int .i64 0), (.int .u64 0), (.int .u32 0), (.int .i64 0), (.int .u64 0), (.int .u32 0), (.int .i64 0), (.int .u64 0), (.int .u32 0), (.int .i64 0), (.int .u64 0), (.int .u32 0), (.int .i64 0), (.int .u64 0), (.int .u32 0), (.int .i64 0), (.int .u64 0), (.int .u32 0)] : List Value) 106 false) →
    ∀ h2 : AH, h2 = h1.alloc (.cells ([(.int .i64 0), (.int .u64 0), (.int .u32 0), (.int .i64 0), (.int .u64 0), (.int .u32 0), (.int .i64 0), (.int .u64 0), (.int .u32 0), (.int .i64 0), (.int .u64 0), (.int .u32 0), (.int .i64 0), (.int .u64 0), (.int .u32 0), (.int .i64 0), (.int .u64 0), (.int .u32 0), (.int .i64 0), (.int .u64 0), (.int .u32 0), (.int .i64 0), (.int .u64 0), (.int .u32 0), (.int .i64 0), (.int .u64 0), (.int .u32 0), (.int .i64 0), (.int .u64 0), (.int .u32 0), (.int .i64 0), (.int .u64 0), (.int .u32 0), (.int .i64 0), (.int .u64 0), (.int .u32 0), (.int .i64 0), (.int .u64 0), (.int .u32 0), (.int .i64 0), (.int .u64 0), (.int .u32 0), (.int .i64 0), (.int .u64 0), (.int .u32 0), (.int .i64 0), (.int .u64 0), (.int .u32 0), (.int .i64 0), (.int .u64 0), (.int .u32 0)] : List Value) 106 false) →
    ∃ i3 : Int, ∃ i4 : Int, ∃ i5 : Int, ldN h2 h.next 0 3 = some ([(.int .i64 i3), (.int .u64 i4), (.int .u32 i5)] : List Value) ∧
    (Wf Try.prog K 64 [(.pointer pa0), (.agg #[(.int .i64 i3), (.int .u64 i4), (.int .u32 i5)])] h2 fun r6 h7 =>
    (∃ l8 : List Value, ∃ i9 : Int, r6 = (.tuple #[(.agg l8.toArray), (.int .i64 i9)]) ∧
    ((List.length l8 = 24) ∧ ∃ h10 : AH, stN h7 h1.next 0 l8 = some h10 ∧
    (((i9 : Int) = 0 → (8 ≠ (0 : Int)) ∧ (∀ i11 : Int, i11 = IntKind.wrap .i64 (Int.tdiv ia2 8) → ((0 : Int) ≤ i11) ∧ ((i11 : Int) < 8) ∧
    (∃ i12 : Int, ∃ i13 : Int, ∃ i14 : Int, ldN h10 h1.next (0 + Int.toNat i11 * 3) 3 = some ([(.int .i64 i12), (.int .u64 i13), (.int .u32 i14)] : List Value) ∧
    (Wf Try.prog K 64 [(.pointer pa0), (.agg #[(.int .i64 i12), (.int .u64 i13), (.int .u32 i14)])] h10 fun r15 h16 =>
    (∃ l17 : List Value, ∃ i18 : Int, r15 = (.tuple #[(.agg l17.toArray), (.int .i64 i18)]) ∧
    ((List.length l17 = 24) ∧ ∃ h19 : AH, stN h16 h1.next 24 l17 = some h19 ∧
    (((i18 : Int) = 0 → (8 ≠ (0 : Int)) ∧ (∀ i20 : Int, i20 = Int.tmod ia2 8 → ((0 : Int) ≤ i20) ∧ ((i20 : Int) < 8) ∧
    (∃ i21 : Int, ∃ i22 : Int, ∃ i23 : Int, ldN h19 h1.next (24 + Int.toNat i20 * 3) 3 = some ([(.int .i64 i21), (.int .u64 i22), (.int .u32 i23)] : List Value) ∧
    ((List.length ([(.int .i64 i21), (.int .u64 i22), (.int .u32 i23)] : List Value) = 3) ∧ ∃ h24 : AH, stN h19 h1.next 48 ([(.int .i64 i21), (.int .u64 i22), (.int .u32 i23)] : List Value) = some h24 ∧
    (∃ l25 : List Value, ldN h24 h1.next 0 51 = some l25 ∧
    ((List.length l25 = 51) ∧ ∃ h26 : AH, stN h24 h0.next 0 l25 = some h26 ∧
    (∃ l27 : List Value, ldN h26 h0.next 0 51 = some l27 ∧
    (Q (.tuple #[(.agg l27.toArray), (.int .i64 0)]) h26)))))))) ∧
    (¬ (i18 : Int) = 0 → ∃ l28 : List Value, aBuild Try.prog 106 #[] = some (.agg l28.toArray) ∧
    ((List.length l28 = 51) ∧ ∃ h29 : AH, stN h19 h0.next 0 l28 = some h29 ∧
    (∃ l30 : List Value, ldN h29 h0.next 0 51 = some l30 ∧
    (Q (.tuple #[(.agg l30.toArray), (.int .i64 i18)]) h29))))))))))) ∧
    (¬ (i9 : Int) = 0 → ∃ l31 : List Value, aBuild Try.prog 106 #[] = some (.agg l31.toArray) ∧
    ((List.length l31 = 51) ∧ ∃ h32 : AH, stN h10 h0.next 0 l31 = some h32 ∧
    (∃ l33 : List Value, ldN h32 h0.next 0 51 = some l33 ∧
    (Q (.tuple #[(.agg l33.toArray), (.int .i64 i9)]) h32))))))))) :
    Wf Try.prog K 58 [(.pointer pa0), (.agg #[(.int .i64 ia1_0), (.int .u64 ia1_1), (.int .u32 ia1_2)]), (.int .i64 ia2)] h Q :=
  vcF_sound (hs := []) hk (Eq.mpr (by kernel_rfl) H)
theorem vc_tree_way_replaced {K : Xs} (hk : K 61 = none) (la0 : List Value) (ia1_0 : Int) (ia1_1 : Int) (ia1_2 : Int) (ia2 : Int) (h : AH) (Q : Value → AH → Prop) (H :
    ∀ h0 : AH, h0 = h.alloc (.cells la0 106 false) →
    ∀ h1 : AH, h1 = h0.alloc (.cells ([(.int .i64 ia1_0), (.int .u64 ia1_1), (.int .u32 ia1_2)] : List Value) 28 false) →
    ∃ i2 : Int, ∃ i3 : Int, ∃ i4 : Int, ldN h1 h.next 48 3 = some ([(.int .i64 i2), (.int .u64 i3), (.int .u32 i4)] : List Value) ∧
    ((8 ≠ (0 : Int)) ∧ (∀ i5 : Int, i5 = IntKind.wrap .i64 (Int.tdiv ia2 8) → ((0 : Int) ≤ i5) ∧ ((i5 : Int) < 8) ∧
    (∃ i6 : Int, ∃ i7 : Int, ∃ i8 : Int, ldN h1 h.next (0 + Int.toNat i5 * 3) 3 = some ([(.int .i64 i6), (.int .u64 i7), (.int .u32 i8)] : List Value) ∧
    (∃ i9 : Int, ∃ i10 : Int, ∃ i11 : Int, ldN h1 h0.next 0 3 = some ([(.int .i64 i9), (.int .u64 i10), (.int .u32 i11)] : List Value) ∧
    (∃ I12 : Option Addr → Nat → Nat → Int → Nat → AH → Prop, (∃ n, I12 none 0 0 0 n h1) ∧
    ∀ (k13 : Nat) (h14 : AH) (p16 : Option Addr) (n17 : Nat) (c18 : Nat) (i19 : Int), I12 p16 n17 c18 i19 k13 h14 →
    ((i19 : Int) < 3 → ((0 : Int) ≤ i19) ∧ ((i19 : Int) < 3) ∧ (∃ i20 : Int, ∃ i21 : Int, ∃ i22 : Int, (List.take 3 (List.drop (Int.toNat i19 * 3) ([(.int .i64 i2), (.int .u64 i3), (.int .u32 i4), (.int .i64 i6), (.int .u64 i7), (.int .u32 i8), (.int .i64 i9), (.int .u64 i10), (.int .u32 i11)] : List Value))) = ([(.int .i64 i20), (.int .u64 i21), (.int .u32 i22)] : List Value) ∧
    (∀ h23 : AH, h23 = h14.alloc (.cells ([(.int .i64 0), (.int .u64 0), (.int .u32 0)] : List Value) 28 false) →
    (List.length ([(.int .i64 i20), (.int .u64 i21), (.int .u32 i22)] : List Value) = 3) ∧ ∃ h24 : AH, stN h23 h14.next 0 ([(.int .i64 i20), (.int .u64 i21), (.int .u32 i22)] : List Value) = some h24 ∧
    (∃ i25 : Int, ∃ i26 : Int, ∃ i27 : Int, ldN h24 h14.next 0 3 = some ([(.int .i64 i25), (.int .u64 i26), (.int .u32 i27)] : List Value) ∧
    (∃ la28 lb29, keyA Try.prog 28 (.agg #[(.int .i64 i25), (.int .u64 i26), (.int .u32 i27)]) = some la28 ∧ keyA Try.prog 28 (.agg #[(.int .i64 0), (.int .u64 0), (.int .u32 0)]) = some lb29 ∧
    (litsEq la28 lb29 = true → ∀ i30 : Int, i30 = IntKind.wrap .i64 (i19 + 1) → ∃ j15, j15 < k13 ∧ I12 p16 n17 c18 i30 j15 h24) ∧
    (litsEq la28 lb29 = false → ∃ i31 : Int, ∃ i32 : Int, ∃ i33 : Int, ldN h24 h14.next 0 3 = some ([(.int .i64 i31), (.int .u64 i32), (.int .u32 i33)] : List Value) ∧
    (∀ h34 : AH, h34 = h24.alloc (.cells ([(.int .i64 i31), (.int .u64 i32), (.int .u32 i33)] : List Value) 28 false) →
    ∃ (p35 : Option Addr) (n36 c37 : Nat) (h38 : AH), aBuiltin Try.prog h34 .append #[29, 29] [(.slice p16 n17 c18), (.slice (some ⟨h24.next, 0, none⟩) 1 1)] = some (.slice p35 n36 c37, h38) ∧
    (∀ i39 : Int, i39 = IntKind.wrap .i64 (i19 + 1) → ∃ j15, j15 < k13 ∧ I12 p35 n36 c37 i39 j15 h38)))))))) ∧
    (¬ (i19 : Int) < 3 → Q (.slice p16 n17 c18) h14))))))) :
    Wf Try.prog K 61 [(.agg la0.toArray), (.agg #[(.int .i64 ia1_0), (.int .u64 ia1_1), (.int .u32 ia1_2)]), (.int .i64 ia2)] h Q :=
  vcF_sound (hs := [(3, [(7, .slice none 0 0), (19, .int .i64 0)])]) hk (Eq.mpr (by kernel_rfl) H)
theorem vc_tree_Get {K : Xs} (hk : K 34 = none) (pa0 : Option Addr) (ia1_0 : Int) (ia1_1 : Int) (ia1_2 : Int) (ia2 : Int) (h : AH) (Q : Value → AH → Prop) (H :
    ∀ h0 : AH, h0 = h.alloc (.cells ([(.int .i64 ia1_0), (.int .u64 ia1_1), (.int .u32 ia1_2)] : List Value) 28 false) →
    ∀ h1 : AH, h1 = h0.alloc (.cells (List.replicate 128 (.int .u8 0) : List Value) 57 false) →
    Wf Try.prog K 57 [(.int .i64 ia2)] h1 fun r2 h3 =>
    (((r2 = (.bool true) ∧
    (∃ i4 : Int, ∃ i5 : Int, ∃ i6 : Int, ldN h3 h.next 0 3 = some ([(.int .i64 i4), (.int .u64 i5), (.int .u32 i6)] : List Value) ∧
    (Wf Try.prog K 58 [(.pointer pa0), (.agg #[(.int .i64 i4), (.int .u64 i5), (.int .u32 i6)]), (.int .i64 ia2)] h3 fun r7 h8 =>
    (∃ l9 : List Value, ∃ i10 : Int, r7 = (.tuple #[(.agg l9.toArray), (.int .i64 i10)]) ∧
    (∀ h11 : AH, h11 = h8.alloc (.cells ([(.int .i64 0), (.int .u64 0), (.int .u32 0), (.int .i64 0), (.int .u64 0), (.int .u32 0), (.int .i64 0), (.int .u64 0), (.int .u32 0), (.int .i64 0), (.int .u64 0), (.int .u32 0), (.int .i64 0), (.int .u64 0), (.int .u32 0), (.int .i64 0), (.int .u64 0), (.int .u32 0), (.int .i64 0), (.int .u64 0), (.int .u32 0), (.int .i64 0), (.int .u64 0), (.int .u32 0), (.int .i64 0), (.int .u64 0), (.int .u32 0), (.int .i64 0), (.int .u64 0), (.int .u32 0), (.int .i64 0), (.int .u64 0), (.int .u32 0), (.int .i64 0), (.int .u64 0), (.int .u32 0), (.int .i64 0), (.int .u64 0), (.int .u32 0), (.int .i64 0), (.int .u64 0), (.int .u32 0), (.int .i64 0), (.int .u64 0), (.int .u32 0), (.int .i64 0), (.int .u64 0), (.int .u32 0), (.int .i64 0), (.int .u64 0), (.int .u32 0)] : List Value) 106 false) →
    (List.length l9 = 51) ∧ ∃ h12 : AH, stN h11 h8.next 0 l9 = some h12 ∧
    (((i10 : Int) = 0 → ∃ i13 : Int, ∃ i14 : Int, ∃ i15 : Int, ldN h12 h8.next 48 3 = some ([(.int .i64 i13), (.int .u64 i14), (.int .u32 i15)] : List Value) ∧
    (Wf Try.prog K 63 [(.pointer pa0), (.agg #[(.int .i64 i13), (.int .u64 i14), (.int .u32 i15)])] h12 fun r16 h17 =>
    (∃ l18 : List Value, ∃ i19 : Int, r16 = (.tuple #[(.agg l18.toArray), (.int .i64 i19)]) ∧
    ((List.length l18 = 128) ∧ ∃ h20 : AH, stN h17 h0.next 0 l18 = some h20 ∧
    (∃ l21 : List Value, ldN h20 h0.next 0 128 = some l21 ∧
    (Q (.tuple #[(.agg l21.toArray), (.int .i64 i19)]) h20)))))) ∧
    (¬ (i10 : Int) = 0 → ∃ l22 : List Value, aBuild Try.prog 57 #[] = some (.agg l22.toArray) ∧
    ((List.length l22 = 128) ∧ ∃ h23 : AH, stN h12 h0.next 0 l22 = some h23 ∧
    (∃ l24 : List Value, ldN h23 h0.next 0 128 = some l24 ∧
    (Q (.tuple #[(.agg l24.toArray), (.int .i64 i10)]) h23)))))))))) ∨ (r2 = (.bool false) ∧
    (∃ l25 : List Value, aBuild Try.prog 57 #[] = some (.agg l25.toArray) ∧
    ((List.length l25 = 128) ∧ ∃ h26 : AH, stN h3 h0.next 0 l25 = some h26 ∧
    (∃ l27 : List Value, ldN h26 h0.next 0 128 = some l27 ∧
    (Q (.tuple #[(.agg l27.toArray), (.int .i64 111)]) h26)))))))) :
    Wf Try.prog K 34 [(.pointer pa0), (.agg #[(.int .i64 ia1_0), (.int .u64 ia1_1), (.int .u32 ia1_2)]), (.int .i64 ia2)] h Q :=
  vcF_sound (hs := []) hk (Eq.mpr (by kernel_rfl) H)
theorem vc_tree_Set {K : Xs} (hk : K 32 = none) (pa0 : Option Addr) (ia1_0 : Int) (ia1_1 : Int) (ia1_2 : Int) (ia2 : Int) (pa3 : Option Addr) (na3 ca3 : Nat) (h : AH) (Q : Value → AH → Prop) (H :
    ∀ h0 : AH, h0 = h.alloc (.cells ([(.int .i64 ia1_0), (.int .u64 ia1_1), (.int .u32 ia1_2)] : List Value) 28 false) →
    ∀ h1 : AH, h1 = h0.alloc (.cells ([(.int .i64 0), (.int .u64 0), (.int .u32 0)] : List Value) 28 false) →
    Wf Try.prog K 57 [(.int .i64 ia2)] h1 fun r2 h3 =>
    (((r2 = (.bool true) ∧
    (((128 : Int) < ((na3 : Nat) : Int) → ∃ i4 : Int, ∃ i5 : Int, ∃ i6 : Int, ldN h3 h.next 0 3 = some ([(.int .i64 i4), (.int .u64 i5), (.int .u32 i6)] : List Value) ∧
    ((List.length ([(.int .i64 i4), (.int .u64 i5), (.int .u32 i6)] : List Value) = 3) ∧ ∃ h7 : AH, stN h3 h0.next 0 ([(.int .i64 i4), (.int .u64 i5), (.int .u32 i6)] : List Value) = some h7 ∧
    (∃ i8 : Int, ∃ i9 : Int, ∃ i10 : Int, ldN h7 h0.next 0 3 = some ([(.int .i64 i8), (.int .u64 i9), (.int .u32 i10)] : List Value) ∧
    (Q (.tuple #[(.agg #[(.int .i64 i8), (.int .u64 i9), (.int .u32 i10)]), (.slice none 0 0), (.int .i64 92)]) h7)))) ∧
    (¬ (128 : Int) < ((na3 : Nat) : Int) → ∃ i11 : Int, ∃ i12 : Int, ∃ i13 : Int, ldN h3 h.next 0 3 = some ([(.int .i64 i11), (.int .u64 i12), (.int .u32 i13)] : List Value) ∧
    (Wf Try.prog K 58 [(.pointer pa0), (.agg #[(.int .i64 i11), (.int .u64 i12), (.int .u32 i13)]), (.int .i64 ia2)] h3 fun r14 h15 =>
    (∃ l16 : List Value, ∃ i17 : Int, r14 = (.tuple #[(.agg l16.toArray), (.int .i64 i17)]) ∧
    (∀ h18 : AH, h18 = h15.alloc (.cells ([(.int .i64 0), (.int .u64 0), (.int .u32 0), (.int .i64 0), (.int .u64 0), (.int .u32 0), (.int .i64 0), (.int .u64 0), (.int .u32 0), (.int .i64 0), (.int .u64 0), (.int .u32 0), (.int .i64 0), (.int .u64 0), (.int .u32 0), (.int .i64 0), (.int .u64 0), (.int .u32 0), (.int .i64 0), (.int .u64 0), (.int .u32 0), (.int .i64 0), (.int .u64 0), (.int .u32 0), (.int .i64 0), (.int .u64 0), (.int .u32 0), (.int .i64 0), (.int .u64 0), (.int .u32 0), (.int .i64 0), (.int .u64 0), (.int .u32 0), (.int .i64 0), (.int .u64 0), (.int .u32 0), (.int .i64 0), (.int .u64 0), (.int .u32 0), (.int .i64 0), (.int .u64 0), (.int .u32 0), (.int .i64 0), (.int .u64 0), (.int .u32 0), (.int .i64 0), (.int .u64 0), (.int .u32 0), (.int .i64 0), (.int .u64 0), (.int .u32 0)] : List Value) 106 false) →
    (List.length l16 = 51) ∧ ∃ h19 : AH, stN h18 h15.next 0 l16 = some h19 ∧
    (((i17 : Int) = 0 → Wf Try.prog K 52 [(.pointer pa0)] h19 fun r20 h21 =>
    (∃ p22 : Option Addr, r20 = (.pointer p22) ∧
    (Wf Try.prog K 53 [(.pointer p22)] h21 fun r23 h24 =>
    (∃ i25 : Int, r23 = (.int .i64 i25) ∧
    (((i25 : Int) < 3 → ∃ i26 : Int, ∃ i27 : Int, ∃ i28 : Int, ldN h24 h.next 0 3 = some ([(.int .i64 i26), (.int .u64 i27), (.int .u32 i28)] : List Value) ∧
    ((List.length ([(.int .i64 i26), (.int .u64 i27), (.int .u32 i28)] : List Value) = 3) ∧ ∃ h29 : AH, stN h24 h0.next 0 ([(.int .i64 i26), (.int .u64 i27), (.int .u32 i28)] : List Value) = some h29 ∧
    (∃ i30 : Int, ∃ i31 : Int, ∃ i32 : Int, ldN h29 h0.next 0 3 = some ([(.int .i64 i30), (.int .u64 i31), (.int .u32 i32)] : List Value) ∧
    (Q (.tuple #[(.agg #[(.int .i64 i30), (.int .u64 i31), (.int .u32 i32)]), (.slice none 0 0), (.int .i64 71)]) h29)))) ∧
    (¬ (i25 : Int) < 3 → Wf Try.prog K 62 [(.pointer pa0), (.slice pa3 na3 ca3)] h24 fun r33 h34 =>
    (∃ i35 : Int, ∃ i36 : Int, ∃ i37 : Int, ∃ i38 : Int, r33 = (.tuple #[(.agg #[(.int .i64 i35), (.int .u64 i36), (.int .u32 i37)]), (.int .i64 i38)]) ∧
    (∀ h39 : AH, h39 = h34.alloc (.cells ([(.int .i64 0), (.int .u64 0), (.int .u32 0)] : List Value) 28 false) →
    (List.length ([(.int .i64 i35), (.int .u64 i36), (.int .u32 i37)] : List Value) = 3) ∧ ∃ h40 : AH, stN h39 h34.next 0 ([(.int .i64 i35), (.int .u64 i36), (.int .u32 i37)] : List Value) = some h40 ∧
    (((i38 : Int) = 0 → ∃ l41 : List Value, ldN h40 h15.next 24 24 = some l41 ∧
    (∀ h42 : AH, h42 = h40.alloc (.cells ([(.int .i64 0), (.int .u64 0), (.int .u32 0), (.int .i64 0), (.int .u64 0), (.int .u32 0), (.int .i64 0), (.int .u64 0), (.int .u32 0), (.int .i64 0), (.int .u64 0), (.int .u32 0), (.int .i64 0), (.int .u64 0), (.int .u32 0), (.int .i64 0), (.int .u64 0), (.int .u32 0), (.int .i64 0), (.int .u64 0), (.int .u32 0), (.int .i64 0), (.int .u64 0), (.int .u32 0)] : List Value) 104 false) →
    (List.length l41 = 24) ∧ ∃ h43 : AH, stN h42 h40.next 0 l41 = some h43 ∧
    ((8 ≠ (0 : Int)) ∧ (∀ i44 : Int, i44 = Int.tmod ia2 8 → ∃ i45 : Int, ∃ i46 : Int, ∃ i47 : Int, ldN h43 h34.next 0 3 = some ([(.int .i64 i45), (.int .u64 i46), (.int .u32 i47)] : List Value) ∧
    (((0 : Int) ≤ i44) ∧ ((i44 : Int) < 8) ∧
    ((List.length ([(.int .i64 i45), (.int .u64 i46), (.int .u32 i47)] : List Value) = 3) ∧ ∃ h48 : AH, stN h43 h40.next (0 + Int.toNat i44 * 3) ([(.int .i64 i45), (.int .u64 i46), (.int .u32 i47)] : List Value) = some h48 ∧
    (∃ l49 : List Value, ldN h48 h40.next 0 24 = some l49 ∧
    (Wf Try.prog K 60 [(.pointer pa0), (.agg l49.toArray)] h48 fun r50 h51 =>
    (∃ i52 : Int, ∃ i53 : Int, ∃ i54 : Int, ∃ i55 : Int, r50 = (.tuple #[(.agg #[(.int .i64 i52), (.int .u64 i53), (.int .u32 i54)]), (.int .i64 i55)]) ∧
    (∀ h56 : AH, h56 = h51.alloc (.cells ([(.int .i64 0), (.int .u64 0), (.int .u32 0)] : List Value) 28 false) →
    (List.length ([(.int .i64 i52), (.int .u64 i53), (.int .u32 i54)] : List Value) = 3) ∧ ∃ h57 : AH, stN h56 h51.next 0 ([(.int .i64 i52), (.int .u64 i53), (.int .u32 i54)] : List Value) = some h57 ∧
    (((i55 : Int) = 0 → ∃ l58 : List Value, ldN h57 h15.next 0 24 = some l58 ∧
    (∀ h59 : AH, h59 = h57.alloc (.cells ([(.int .i64 0), (.int .u64 0), (.int .u32 0), (.int .i64 0), (.int .u64 0), (.int .u32 0), (.int .i64 0), (.int .u64 0), (.int .u32 0), (.int .i64 0), (.int .u64 0), (.int .u32 0), (.int .i64 0), (.int .u64 0), (.int .u32 0), (.int .i64 0), (.int .u64 0), (.int .u32 0), (.int .i64 0), (.int .u64 0), (.int .u32 0), (.int .i64 0), (.int .u64 0), (.int .u32 0)] : List Value) 104 false) →
    (List.length l58 = 24) ∧ ∃ h60 : AH, stN h59 h57.next 0 l58 = some h60 ∧
    ((8 ≠ (0 : Int)) ∧ (∀ i61 : Int, i61 = IntKind.wrap .i64 (Int.tdiv ia2 8) → ∃ i62 : Int, ∃ i63 : Int, ∃ i64 : Int, ldN h60 h51.next 0 3 = some ([(.int .i64 i62), (.int .u64 i63), (.int .u32 i64)] : List Value) ∧
    (((0 : Int) ≤ i61) ∧ ((i61 : Int) < 8) ∧
    ((List.length ([(.int .i64 i62), (.int .u64 i63), (.int .u32 i64)] : List Value) = 3) ∧ ∃ h65 : AH, stN h60 h57.next (0 + Int.toNat i61 * 3) ([(.int .i64 i62), (.int .u64 i63), (.int .u32 i64)] : List Value) = some h65 ∧
    (∃ l66 : List Value, ldN h65 h57.next 0 24 = some l66 ∧
    (Wf Try.prog K 60 [(.pointer pa0), (.agg l66.toArray)] h65 fun r67 h68 =>
    (∃ i69 : Int, ∃ i70 : Int, ∃ i71 : Int, ∃ i72 : Int, r67 = (.tuple #[(.agg #[(.int .i64 i69), (.int .u64 i70), (.int .u32 i71)]), (.int .i64 i72)]) ∧
    (∀ h73 : AH, h73 = h68.alloc (.cells ([(.int .i64 0), (.int .u64 0), (.int .u32 0)] : List Value) 28 false) →
    (List.length ([(.int .i64 i69), (.int .u64 i70), (.int .u32 i71)] : List Value) = 3) ∧ ∃ h74 : AH, stN h73 h68.next 0 ([(.int .i64 i69), (.int .u64 i70), (.int .u32 i71)] : List Value) = some h74 ∧
    (((i72 : Int) = 0 → ∃ l75 : List Value, ldN h74 h15.next 0 51 = some l75 ∧
    (∃ i76 : Int, ∃ i77 : Int, ∃ i78 : Int, ldN h74 h.next 0 3 = some ([(.int .i64 i76), (.int .u64 i77), (.int .u32 i78)] : List Value) ∧
    (Wf Try.prog K 61 [(.agg l75.toArray), (.agg #[(.int .i64 i76), (.int .u64 i77), (.int .u32 i78)]), (.int .i64 ia2)] h74 fun r79 h80 =>
    (∃ (p81 : Option Addr) (n82 c83 : Nat), r79 = (.slice p81 n82 c83) ∧
    (∃ i84 : Int, ∃ i85 : Int, ∃ i86 : Int, ldN h80 h68.next 0 3 = some ([(.int .i64 i84), (.int .u64 i85), (.int .u32 i86)] : List Value) ∧
    ((List.length ([(.int .i64 i84), (.int .u64 i85), (.int .u32 i86)] : List Value) = 3) ∧ ∃ h87 : AH, stN h80 h0.next 0 ([(.int .i64 i84), (.int .u64 i85), (.int .u32 i86)] : List Value) = some h87 ∧
    ((ldN h74 h68.next 0 3 = some ([(.int .i64 i84), (.int .u64 i85), (.int .u32 i86)] : List Value)) ∧
    ((ldN h80 h68.next 0 3 = some ([(.int .i64 i84), (.int .u64 i85), (.int .u32 i86)] : List Value)) ∧
    (∃ i88 : Int, ∃ i89 : Int, ∃ i90 : Int, ldN h87 h0.next 0 3 = some ([(.int .i64 i88), (.int .u64 i89), (.int .u32 i90)] : List Value) ∧
    (Q (.tuple #[(.agg #[(.int .i64 i88), (.int .u64 i89), (.int .u32 i90)]), (.slice p81 n82 c83), (.int .i64 0)]) h87)))))))))) ∧
    (¬ (i72 : Int) = 0 → ∃ i91 : Int, ∃ i92 : Int, ∃ i93 : Int, ldN h74 h.next 0 3 = some ([(.int .i64 i91), (.int .u64 i92), (.int .u32 i93)] : List Value) ∧
    ((List.length ([(.int .i64 i91), (.int .u64 i92), (.int .u32 i93)] : List Value) = 3) ∧ ∃ h94 : AH, stN h74 h0.next 0 ([(.int .i64 i91), (.int .u64 i92), (.int .u32 i93)] : List Value) = some h94 ∧
    (∃ i95 : Int, ∃ i96 : Int, ∃ i97 : Int, ldN h94 h0.next 0 3 = some ([(.int .i64 i95), (.int .u64 i96), (.int .u32 i97)] : List Value) ∧
    (Q (.tuple #[(.agg #[(.int .i64 i95), (.int .u64 i96), (.int .u32 i97)]), (.slice none 0 0), (.int .i64 i72)]) h94))))))))))))))) ∧
    (¬ (i55 : Int) = 0 → ∃ i98 : Int, ∃ i99 : Int, ∃ i100 : Int, ldN h57 h.next 0 3 = some ([(.int .i64 i98), (.int .u64 i99), (.int .u32 i100)] : List Value) ∧
    ((List.length ([(.int .i64 i98), (.int .u64 i99), (.int .u32 i100)] : List Value) = 3) ∧ ∃ h101 : AH, stN h57 h0.next 0 ([(.int .i64 i98), (.int .u64 i99), (.int .u32 i100)] : List Value) = some h101 ∧
    (∃ i102 : Int, ∃ i103 : Int, ∃ i104 : Int, ldN h101 h0.next 0 3 = some ([(.int .i64 i102), (.int .u64 i103), (.int .u32 i104)] : List Value) ∧
    (Q (.tuple #[(.agg #[(.int .i64 i102), (.int .u64 i103), (.int .u32 i104)]), (.slice none 0 0), (.int .i64 i55)]) h101))))))))))))))) ∧
    (¬ (i38 : Int) = 0 → ∃ i105 : Int, ∃ i106 : Int, ∃ i107 : Int, ldN h40 h.next 0 3 = some ([(.int .i64 i105), (.int .u64 i106), (.int .u32 i107)] : List Value) ∧
    ((List.length ([(.int .i64 i105), (.int .u64 i106), (.int .u32 i107)] : List Value) = 3) ∧ ∃ h108 : AH, stN h40 h0.next 0 ([(.int .i64 i105), (.int .u64 i106), (.int .u32 i107)] : List Value) = some h108 ∧
    (∃ i109 : Int, ∃ i110 : Int, ∃ i111 : Int, ldN h108 h0.next 0 3 = some ([(.int .i64 i109), (.int .u64 i110), (.int .u32 i111)] : List Value) ∧
    (Q (.tuple #[(.agg #[(.int .i64 i109), (.int .u64 i110), (.int .u32 i111)]), (.slice none 0 0), (.int .i64 i38)]) h108))))))))))))) ∧
    (¬ (i17 : Int) = 0 → ∃ i112 : Int, ∃ i113 : Int, ∃ i114 : Int, ldN h19 h.next 0 3 = some ([(.int .i64 i112), (.int .u64 i113), (.int .u32 i114)] : List Value) ∧
    ((List.length ([(.int .i64 i112), (.int .u64 i113), (.int .u32 i114)] : List Value) = 3) ∧ ∃ h115 : AH, stN h19 h0.next 0 ([(.int .i64 i112), (.int .u64 i113), (.int .u32 i114)] : List Value) = some h115 ∧
    (∃ i116 : Int, ∃ i117 : Int, ∃ i118 : Int, ldN h115 h0.next 0 3 = some ([(.int .i64 i116), (.int .u64 i117), (.int .u32 i118)] : List Value) ∧
    (Q (.tuple #[(.agg #[(.int .i64 i116), (.int .u64 i117), (.int .u32 i118)]), (.slice none 0 0), (.int .i64 i17)]) h115))))))))))) ∨ (r2 = (.bool false) ∧
    (∃ i119 : Int, ∃ i120 : Int, ∃ i121 : Int, ldN h3 h.next 0 3 = some ([(.int .i64 i119), (.int .u64 i120), (.int .u32 i121)] : List Value) ∧
    ((List.length ([(.int .i64 i119), (.int .u64 i120), (.int .u32 i121)] : List Value) = 3) ∧ ∃ h122 : AH, stN h3 h0.next 0 ([(.int .i64 i119), (.int .u64 i120), (.int .u32 i121)] : List Value) = some h122 ∧
    (∃ i123 : Int, ∃ i124 : Int, ∃ i125 : Int, ldN h122 h0.next 0 3 = some ([(.int .i64 i123), (.int .u64 i124), (.int .u32 i125)] : List Value) ∧
    (Q (.tuple #[(.agg #[(.int .i64 i123), (.int .u64 i124), (.int .u32 i125)]), (.slice none 0 0), (.int .i64 111)]) h122)))))))) :
    Wf Try.prog K 32 [(.pointer pa0), (.agg #[(.int .i64 ia1_0), (.int .u64 ia1_1), (.int .u32 ia1_2)]), (.int .i64 ia2), (.slice pa3 na3 ca3)] h Q :=
  vcF_sound (hs := []) hk (Eq.mpr (by kernel_rfl) H)
theorem vc_tree_Trim {K : Xs} (hk : K 31 = none) (pa0 : Option Addr) (ia1_0 : Int) (ia1_1 : Int) (ia1_2 : Int) (ia2 : Int) (h : AH) (Q : Value → AH → Prop) (H :
    ∀ h0 : AH, h0 = h.alloc (.cells ([(.int .i64 ia1_0), (.int .u64 ia1_1), (.int .u32 ia1_2)] : List Value) 28 false) →
    ∀ h1 : AH, h1 = h0.alloc (.cells ([(.int .i64 0), (.int .u64 0), (.int .u32 0)] : List Value) 28 false) →
    Wf Try.prog K 57 [(.int .i64 ia2)] h1 fun r2 h3 =>
    (((r2 = (.bool true) ∧
    (∃ i4 : Int, ∃ i5 : Int, ∃ i6 : Int, ldN h3 h.next 0 3 = some ([(.int .i64 i4), (.int .u64 i5), (.int .u32 i6)] : List Value) ∧
    (Wf Try.prog K 58 [(.pointer pa0), (.agg #[(.int .i64 i4), (.int .u64 i5), (.int .u32 i6)]), (.int .i64 ia2)] h3 fun r7 h8 =>
    (∃ l9 : List Value, ∃ i10 : Int, r7 = (.tuple #[(.agg l9.toArray), (.int .i64 i10)]) ∧
    (∀ h11 : AH, h11 = h8.alloc (.cells ([(.int .i64 0), (.int .u64 0), (.int .u32 0), (.int .i64 0), (.int .u64 0), (.int .u32 0), (.int .i64 0), (.int .u64 0), (.int .u32 0), (.int .i64 0), (.int .u64 0), (.int .u32 0), (.int .i64 0), (.int .u64 0), (.int .u32 0), (.int .i64 0), (.int .u64 0), (.int .u32 0), (.int .i64 0), (.int .u64 0), (.int .u32 0), (.int .i64 0), (.int .u64 0), (.int .u32 0), (.int .i64 0), (.int .u64 0), (.int .u32 0), (.int .i64 0), (.int .u64 0), (.int .u32 0), (.int .i64 0), (.int .u64 0), (.int .u32 0), (.int .i64 0), (.int .u64 0), (.int .u32 0), (.int .i64 0), (.int .u64 0), (.int .u32 0), (.int .i64 0), (.int .u64 0), (.int .u32 0), (.int .i64 0), (.int .u64 0), (.int .u32 0), (.int .i64 0), (.int .u64 0), (.int .u32 0), (.int .i64 0), (.int .u64 0), (.int .u32 0)] : List Value) 106 false) →
    (List.length l9 = 51) ∧ ∃ h12 : AH, stN h11 h8.next 0 l9 = some h12 ∧
    (((i10 : Int) = 0 → ∃ i13 : Int, ∃ i14 : Int, ∃ i15 : Int, ldN h12 h8.next 48 3 = some ([(.int .i64 i13), (.int .u64 i14), (.int .u32 i15)] : List Value) ∧
    (∃ la16 lb17, keyA Try.prog 28 (.agg #[(.int .i64 i13), (.int .u64 i14), (.int .u32 i15)]) = some la16 ∧ keyA Try.prog 28 (.agg #[(.int .i64 0), (.int .u64 0), (.int .u32 0)]) = some lb17 ∧
    (litsEq la16 lb17 = true → ∃ i18 : Int, ∃ i19 : Int, ∃ i20 : Int, ldN h12 h.next 0 3 = some ([(.int .i64 i18), (.int .u64 i19), (.int .u32 i20)] : List Value) ∧
    ((List.length ([(.int .i64 i18), (.int .u64 i19), (.int .u32 i20)] : List Value) = 3) ∧ ∃ h21 : AH, stN h12 h0.next 0 ([(.int .i64 i18), (.int .u64 i19), (.int .u32 i20)] : List Value) = some h21 ∧
    (∃ i22 : Int, ∃ i23 : Int, ∃ i24 : Int, ldN h21 h0.next 0 3 = some ([(.int .i64 i22), (.int .u64 i23), (.int .u32 i24)] : List Value) ∧
    (Q (.tuple #[(.agg #[(.int .i64 i22), (.int .u64 i23), (.int .u32 i24)]), (.slice none 0 0), (.int .i64 i10)]) h21)))) ∧
    (litsEq la16 lb17 = false → ∃ l25 : List Value, ldN h12 h8.next 0 24 = some l25 ∧
    (∀ h26 : AH, h26 = h12.alloc (.cells ([(.int .i64 0), (.int .u64 0), (.int .u32 0), (.int .i64 0), (.int .u64 0), (.int .u32 0), (.int .i64 0), (.int .u64 0), (.int .u32 0), (.int .i64 0), (.int .u64 0), (.int .u32 0), (.int .i64 0), (.int .u64 0), (.int .u32 0), (.int .i64 0), (.int .u64 0), (.int .u32 0), (.int .i64 0), (.int .u64 0), (.int .u32 0), (.int .i64 0), (.int .u64 0), (.int .u32 0)] : List Value) 104 false) →
    ∀ h27 : AH, h27 = h26.alloc (.cells ([(.int .i64 0), (.int .u64 0), (.int .u32 0), (.int .i64 0), (.int .u64 0), (.int .u32 0), (.int .i64 0), (.int .u64 0), (.int .u32 0), (.int .i64 0), (.int .u64 0), (.int .u32 0), (.int .i64 0), (.int .u64 0), (.int .u32 0), (.int .i64 0), (.int .u64 0), (.int .u32 0), (.int .i64 0), (.int .u64 0), (.int .u32 0), (.int .i64 0), (.int .u64 0), (.int .u32 0)] : List Value) 104 false) →
    (List.length l25 = 24) ∧ ∃ h28 : AH, stN h27 h12.next 0 l25 = some h28 ∧
    (∃ l29 : List Value, ldN h28 h8.next 24 24 = some l29 ∧
    ((List.length l29 = 24) ∧ ∃ h30 : AH, stN h28 h26.next 0 l29 = some h30 ∧
    (vSelfL l29 ((ldN h27 h8.next 24 24 = some l29) ∧
    (vSelfL l29 ((ldN h28 h8.next 24 24 = some l29) ∧
    ((8 ≠ (0 : Int)) ∧ (∀ i31 : Int, i31 = Int.tmod ia2 8 → ((0 : Int) ≤ i31) ∧ ((i31 : Int) < 8) ∧
    ((List.length ([(.int .i64 0), (.int .u64 0), (.int .u32 0)] : List Value) = 3) ∧ ∃ h32 : AH, stN h30 h26.next (0 + Int.toNat i31 * 3) ([(.int .i64 0), (.int .u64 0), (.int .u32 0)] : List Value) = some h32 ∧
    ((8 ≠ (0 : Int)) ∧ (∀ i33 : Int, i33 = IntKind.wrap .i64 (Int.tdiv ia2 8) → ((0 : Int) ≤ i33) ∧ ((i33 : Int) < 8) ∧
    ((List.length ([(.int .i64 0), (.int .u64 0), (.int .u32 0)] : List Value) = 3) ∧ ∃ h34 : AH, stN h32 h12.next (0 + Int.toNat i33 * 3) ([(.int .i64 0), (.int .u64 0), (.int .u32 0)] : List Value) = some h34 ∧
    (∃ l35 : List Value, ldN h34 h26.next 0 24 = some l35 ∧
    (Wf Try.prog K 59 [(.agg l35.toArray)] h34 fun r36 h37 =>
    (((r36 = (.bool true) ∧
    (∃ l38 : List Value, ldN h37 h12.next 0 24 = some l38 ∧
    (Wf Try.prog K 59 [(.agg l38.toArray)] h37 fun r39 h40 =>
    (((r39 = (.bool true) ∧
    (Wf Try.prog K 52 [(.pointer pa0)] h40 fun r41 h42 =>
    (∃ p43 : Option Addr, r41 = (.pointer p43) ∧
    (Wf Try.prog K 53 [(.pointer p43)] h42 fun r44 h45 =>
    (∃ i46 : Int, r44 = (.int .i64 i46) ∧
    (((i46 : Int) < 0 → ∃ i47 : Int, ∃ i48 : Int, ∃ i49 : Int, ldN h45 h.next 0 3 = some ([(.int .i64 i47), (.int .u64 i48), (.int .u32 i49)] : List Value) ∧
    ((List.length ([(.int .i64 i47), (.int .u64 i48), (.int .u32 i49)] : List Value) = 3) ∧ ∃ h50 : AH, stN h45 h0.next 0 ([(.int .i64 i47), (.int .u64 i48), (.int .u32 i49)] : List Value) = some h50 ∧
    (∃ i51 : Int, ∃ i52 : Int, ∃ i53 : Int, ldN h50 h0.next 0 3 = some ([(.int .i64 i51), (.int .u64 i52), (.int .u32 i53)] : List Value) ∧
    (Q (.tuple #[(.agg #[(.int .i64 i51), (.int .u64 i52), (.int .u32 i53)]), (.slice none 0 0), (.int .i64 71)]) h50)))) ∧
    (¬ (i46 : Int) < 0 → ((0 : Int) = 2 → (8 ≠ (0 : Int)) ∧ (∀ i54 : Int, i54 = IntKind.wrap .i64 (Int.tdiv ia2 8) → ∃ l55 : List Value, ldN h45 h26.next 0 24 = some l55 ∧
    (Wf Try.prog K 60 [(.pointer pa0), (.agg l55.toArray)] h45 fun r56 h57 =>
    (∃ i58 : Int, ∃ i59 : Int, ∃ i60 : Int, ∃ i61 : Int, r56 = (.tuple #[(.agg #[(.int .i64 i58), (.int .u64 i59), (.int .u32 i60)]), (.int .i64 i61)]) ∧
    (((0 : Int) ≤ i54) ∧ ((i54 : Int) < 8) ∧
    ((List.length ([(.int .i64 i58), (.int .u64 i59), (.int .u32 i60)] : List Value) = 3) ∧ ∃ h62 : AH, stN h57 h12.next (0 + Int.toNat i54 * 3) ([(.int .i64 i58), (.int .u64 i59), (.int .u32 i60)] : List Value) = some h62 ∧
    (((i61 : Int) = 0 → ∀ h63 : AH, h63 = h62.alloc (.cells ([(.int .i64 0), (.int .u64 0), (.int .u32 0)] : List Value) 28 false) →
    ((0 : Int) < 0 → ∃ l64 : List Value, ldN h63 h12.next 0 24 = some l64 ∧
    (Wf Try.prog K 60 [(.pointer pa0), (.agg l64.toArray)] h63 fun r65 h66 =>
    (∃ i67 : Int, ∃ i68 : Int, ∃ i69 : Int, ∃ i70 : Int, r65 = (.tuple #[(.agg #[(.int .i64 i67), (.int .u64 i68), (.int .u32 i69)]), (.int .i64 i70)]) ∧
    ((List.length ([(.int .i64 i67), (.int .u64 i68), (.int .u32 i69)] : List Value) = 3) ∧ ∃ h71 : AH, stN h66 h62.next 0 ([(.int .i64 i67), (.int .u64 i68), (.int .u32 i69)] : List Value) = some h71 ∧
    (((i70 : Int) = 0 → ∃ l72 : List Value, ldN h71 h8.next 0 51 = some l72 ∧
    (∃ i73 : Int, ∃ i74 : Int, ∃ i75 : Int, ldN h71 h.next 0 3 = some ([(.int .i64 i73), (.int .u64 i74), (.int .u32 i75)] : List Value) ∧
    (Wf Try.prog K 61 [(.agg l72.toArray), (.agg #[(.int .i64 i73), (.int .u64 i74), (.int .u32 i75)]), (.int .i64 ia2)] h71 fun r76 h77 =>
    (∃ (p78 : Option Addr) (n79 c80 : Nat), r76 = (.slice p78 n79 c80) ∧
    (∃ i81 : Int, ∃ i82 : Int, ∃ i83 : Int, ldN h77 h62.next 0 3 = some ([(.int .i64 i81), (.int .u64 i82), (.int .u32 i83)] : List Value) ∧
    ((List.length ([(.int .i64 i81), (.int .u64 i82), (.int .u32 i83)] : List Value) = 3) ∧ ∃ h84 : AH, stN h77 h0.next 0 ([(.int .i64 i81), (.int .u64 i82), (.int .u32 i83)] : List Value) = some h84 ∧
    ((ldN h71 h62.next 0 3 = some ([(.int .i64 i81), (.int .u64 i82), (.int .u32 i83)] : List Value)) ∧
    ((ldN h77 h62.next 0 3 = some ([(.int .i64 i81), (.int .u64 i82), (.int .u32 i83)] : List Value)) ∧
    (∃ i85 : Int, ∃ i86 : Int, ∃ i87 : Int, ldN h84 h0.next 0 3 = some ([(.int .i64 i85), (.int .u64 i86), (.int .u32 i87)] : List Value) ∧
    (Q (.tuple #[(.agg #[(.int .i64 i85), (.int .u64 i86), (.int .u32 i87)]), (.slice p78 n79 c80), (.int .i64 0)]) h84)))))))))) ∧
    (¬ (i70 : Int) = 0 → ∃ i88 : Int, ∃ i89 : Int, ∃ i90 : Int, ldN h71 h.next 0 3 = some ([(.int .i64 i88), (.int .u64 i89), (.int .u32 i90)] : List Value) ∧
    ((List.length ([(.int .i64 i88), (.int .u64 i89), (.int .u32 i90)] : List Value) = 3) ∧ ∃ h91 : AH, stN h71 h0.next 0 ([(.int .i64 i88), (.int .u64 i89), (.int .u32 i90)] : List Value) = some h91 ∧
    (∃ i92 : Int, ∃ i93 : Int, ∃ i94 : Int, ldN h91 h0.next 0 3 = some ([(.int .i64 i92), (.int .u64 i93), (.int .u32 i94)] : List Value) ∧
    (Q (.tuple #[(.agg #[(.int .i64 i92), (.int .u64 i93), (.int .u32 i94)]), (.slice none 0 0), (.int .i64 i70)]) h91))))))))) ∧
    (¬ (0 : Int) < 0 → ∃ l95 : List Value, ldN h63 h8.next 0 51 = some l95 ∧
    (∃ i96 : Int, ∃ i97 : Int, ∃ i98 : Int, ldN h63 h.next 0 3 = some ([(.int .i64 i96), (.int .u64 i97), (.int .u32 i98)] : List Value) ∧
    (Wf Try.prog K 61 [(.agg l95.toArray), (.agg #[(.int .i64 i96), (.int .u64 i97), (.int .u32 i98)]), (.int .i64 ia2)] h63 fun r99 h100 =>
    (∃ (p101 : Option Addr) (n102 c103 : Nat), r99 = (.slice p101 n102 c103) ∧
    (∃ i104 : Int, ∃ i105 : Int, ∃ i106 : Int, ldN h100 h62.next 0 3 = some ([(.int .i64 i104), (.int .u64 i105), (.int .u32 i106)] : List Value) ∧
    ((List.length ([(.int .i64 i104), (.int .u64 i105), (.int .u32 i106)] : List Value) = 3) ∧ ∃ h107 : AH, stN h100 h0.next 0 ([(.int .i64 i104), (.int .u64 i105), (.int .u32 i106)] : List Value) = some h107 ∧
    ((ldN h63 h62.next 0 3 = some ([(.int .i64 i104), (.int .u64 i105), (.int .u32 i106)] : List Value)) ∧
    ((ldN h100 h62.next 0 3 = some ([(.int .i64 i104), (.int .u64 i105), (.int .u32 i106)] : List Value)) ∧
    (∃ i108 : Int, ∃ i109 : Int, ∃ i110 : Int, ldN h107 h0.next 0 3 = some ([(.int .i64 i108), (.int .u64 i109), (.int .u32 i110)] : List Value) ∧
    (Q (.tuple #[(.agg #[(.int .i64 i108), (.int .u64 i109), (.int .u32 i110)]), (.slice p101 n102 c103), (.int .i64 0)]) h107))))))))))) ∧
    (¬ (i61 : Int) = 0 → ∃ i111 : Int, ∃ i112 : Int, ∃ i113 : Int, ldN h62 h.next 0 3 = some ([(.int .i64 i111), (.int .u64 i112), (.int .u32 i113)] : List Value) ∧
    ((List.length ([(.int .i64 i111), (.int .u64 i112), (.int .u32 i113)] : List Value) = 3) ∧ ∃ h114 : AH, stN h62 h0.next 0 ([(.int .i64 i111), (.int .u64 i112), (.int .u32 i113)] : List Value) = some h114 ∧
    (∃ i115 : Int, ∃ i116 : Int, ∃ i117 : Int, ldN h114 h0.next 0 3 = some ([(.int .i64 i115), (.int .u64 i116), (.int .u32 i117)] : List Value) ∧
    (Q (.tuple #[(.agg #[(.int .i64 i115), (.int .u64 i116), (.int .u32 i117)]), (.slice none 0 0), (.int .i64 i61)]) h114))))))))))) ∧
    (¬ (0 : Int) = 2 → ∀ h118 : AH, h118 = h45.alloc (.cells ([(.int .i64 0), (.int .u64 0), (.int .u32 0)] : List Value) 28 false) →
    ((0 : Int) < 0 → ∃ l119 : List Value, ldN h118 h12.next 0 24 = some l119 ∧
    (Wf Try.prog K 60 [(.pointer pa0), (.agg l119.toArray)] h118 fun r120 h121 =>
    (∃ i122 : Int, ∃ i123 : Int, ∃ i124 : Int, ∃ i125 : Int, r120 = (.tuple #[(.agg #[(.int .i64 i122), (.int .u64 i123), (.int .u32 i124)]), (.int .i64 i125)]) ∧
    ((List.length ([(.int .i64 i122), (.int .u64 i123), (.int .u32 i124)] : List Value) = 3) ∧ ∃ h126 : AH, stN h121 h45.next 0 ([(.int .i64 i122), (.int .u64 i123), (.int .u32 i124)] : List Value) = some h126 ∧
    (((i125 : Int) = 0 → ∃ l127 : List Value, ldN h126 h8.next 0 51 = some l127 ∧
    (∃ i128 : Int, ∃ i129 : Int, ∃ i130 : Int, ldN h126 h.next 0 3 = some ([(.int .i64 i128), (.int .u64 i129), (.int .u32 i130)] : List Value) ∧
    (Wf Try.prog K 61 [(.agg l127.toArray), (.agg #[(.int .i64 i128), (.int .u64 i129), (.int .u32 i130)]), (.int .i64 ia2)] h126 fun r131 h132 =>
    (∃ (p133 : Option Addr) (n134 c135 : Nat), r131 = (.slice p133 n134 c135) ∧
    (∃ i136 : Int, ∃ i137 : Int, ∃ i138 : Int, ldN h132 h45.next 0 3 = some ([(.int .i64 i136), (.int .u64 i137), (.int .u32 i138)] : List Value) ∧
    ((List.length ([(.int .i64 i136), (.int .u64 i137), (.int .u32 i138)] : List Value) = 3) ∧ ∃ h139 : AH, stN h132 h0.next 0 ([(.int .i64 i136), (.int .u64 i137), (.int .u32 i138)] : List Value) = some h139 ∧
    ((ldN h126 h45.next 0 3 = some ([(.int .i64 i136), (.int .u64 i137), (.int .u32 i138)] : List Value)) ∧
    ((ldN h132 h45.next 0 3 = some ([(.int .i64 i136), (.int .u64 i137), (.int .u32 i138)] : List Value)) ∧
    (∃ i140 : Int, ∃ i141 : Int, ∃ i142 : Int, ldN h139 h0.next 0 3 = some ([(.int .i64 i140), (.int .u64 i141), (.int .u32 i142)] : List Value) ∧
    (Q (.tuple #[(.agg #[(.int .i64 i140), (.int .u64 i141), (.int .u32 i142)]), (.slice p133 n134 c135), (.int .i64 0)]) h139)))))))))) ∧
    (¬ (i125 : Int) = 0 → ∃ i143 : Int, ∃ i144 : Int, ∃ i145 : Int, ldN h126 h.next 0 3 = some ([(.int .i64 i143), (.int .u64 i144), (.int .u32 i145)] : List Value) ∧
    ((List.length ([(.int .i64 i143), (.int .u64 i144), (.int .u32 i145)] : List Value) = 3) ∧ ∃ h146 : AH, stN h126 h0.next 0 ([(.int .i64 i143), (.int .u64 i144), (.int .u32 i145)] : List Value) = some h146 ∧
    (∃ i147 : Int, ∃ i148 : Int, ∃ i149 : Int, ldN h146 h0.next 0 3 = some ([(.int .i64 i147), (.int .u64 i148), (.int .u32 i149)] : List Value) ∧
    (Q (.tuple #[(.agg #[(.int .i64 i147), (.int .u64 i148), (.int .u32 i149)]), (.slice none 0 0), (.int .i64 i125)]) h146))))))))) ∧
    (¬ (0 : Int) < 0 → ∃ l150 : List Value, ldN h118 h8.next 0 51 = some l150 ∧
    (∃ i151 : Int, ∃ i152 : Int, ∃ i153 : Int, ldN h118 h.next 0 3 = some ([(.int .i64 i151), (.int .u64 i152), (.int .u32 i153)] : List Value) ∧
    (Wf Try.prog K 61 [(.agg l150.toArray), (.agg #[(.int .i64 i151), (.int .u64 i152), (.int .u32 i153)]), (.int .i64 ia2)] h118 fun r154 h155 =>
    (∃ (p156 : Option Addr) (n157 c158 : Nat), r154 = (.slice p156 n157 c158) ∧
    (∃ i159 : Int, ∃ i160 : Int, ∃ i161 : Int, ldN h155 h45.next 0 3 = some ([(.int .i64 i159), (.int .u64 i160), (.int .u32 i161)] : List Value) ∧
    ((List.length ([(.int .i64 i159), (.int .u64 i160), (.int .u32 i161)] : List Value) = 3) ∧ ∃ h162 : AH, stN h155 h0.next 0 ([(.int .i64 i159), (.int .u64 i160), (.int .u32 i161)] : List Value) = some h162 ∧
    ((ldN h118 h45.next 0 3 = some ([(.int .i64 i159), (.int .u64 i160), (.int .u32 i161)] : List Value)) ∧
    ((ldN h155 h45.next 0 3 = some ([(.int .i64 i159), (.int .u64 i160), (.int .u32 i161)] : List Value)) ∧
    (∃ i163 : Int, ∃ i164 : Int, ∃ i165 : Int, ldN h162 h0.next 0 3 = some ([(.int .i64 i163), (.int .u64 i164), (.int .u32 i165)] : List Value) ∧
    (Q (.tuple #[(.agg #[(.int .i64 i163), (.int .u64 i164), (.int .u32 i165)]), (.slice p156 n157 c158), (.int .i64 0)]) h162)))))))))))))))))) ∨ (r39 = (.bool false) ∧
    (∃ l166 : List Value, ldN h40 h26.next 0 24 = some l166 ∧
    (Wf Try.prog K 59 [(.agg l166.toArray)] h40 fun r167 h168 =>
    (((r167 = (.bool true) ∧
    (Wf Try.prog K 52 [(.pointer pa0)] h168 fun r169 h170 =>
    (∃ p171 : Option Addr, r169 = (.pointer p171) ∧
    (Wf Try.prog K 53 [(.pointer p171)] h170 fun r172 h173 =>
    (∃ i174 : Int, r172 = (.int .i64 i174) ∧
    (((i174 : Int) < 1 → ∃ i175 : Int, ∃ i176 : Int, ∃ i177 : Int, ldN h173 h.next 0 3 = some ([(.int .i64 i175), (.int .u64 i176), (.int .u32 i177)] : List Value) ∧
    ((List.length ([(.int .i64 i175), (.int .u64 i176), (.int .u32 i177)] : List Value) = 3) ∧ ∃ h178 : AH, stN h173 h0.next 0 ([(.int .i64 i175), (.int .u64 i176), (.int .u32 i177)] : List Value) = some h178 ∧
    (∃ i179 : Int, ∃ i180 : Int, ∃ i181 : Int, ldN h178 h0.next 0 3 = some ([(.int .i64 i179), (.int .u64 i180), (.int .u32 i181)] : List Value) ∧
    (Q (.tuple #[(.agg #[(.int .i64 i179), (.int .u64 i180), (.int .u32 i181)]), (.slice none 0 0), (.int .i64 71)]) h178)))) ∧
    (¬ (i174 : Int) < 1 → ((1 : Int) = 2 → (8 ≠ (0 : Int)) ∧ (∀ i182 : Int, i182 = IntKind.wrap .i64 (Int.tdiv ia2 8) → ∃ l183 : List Value, ldN h173 h26.next 0 24 = some l183 ∧
    (Wf Try.prog K 60 [(.pointer pa0), (.agg l183.toArray)] h173 fun r184 h185 =>
    (∃ i186 : Int, ∃ i187 : Int, ∃ i188 : Int, ∃ i189 : Int, r184 = (.tuple #[(.agg #[(.int .i64 i186), (.int .u64 i187), (.int .u32 i188)]), (.int .i64 i189)]) ∧
    (((0 : Int) ≤ i182) ∧ ((i182 : Int) < 8) ∧
    ((List.length ([(.int .i64 i186), (.int .u64 i187), (.int .u32 i188)] : List Value) = 3) ∧ ∃ h190 : AH, stN h185 h12.next (0 + Int.toNat i182 * 3) ([(.int .i64 i186), (.int .u64 i187), (.int .u32 i188)] : List Value) = some h190 ∧
    (((i189 : Int) = 0 → ∀ h191 : AH, h191 = h190.alloc (.cells ([(.int .i64 0), (.int .u64 0), (.int .u32 0)] : List Value) 28 false) →
    ((0 : Int) < 1 → ∃ l192 : List Value, ldN h191 h12.next 0 24 = some l192 ∧
    (Wf Try.prog K 60 [(.pointer pa0), (.agg l192.toArray)] h191 fun r193 h194 =>
    (∃ i195 : Int, ∃ i196 : Int, ∃ i197 : Int, ∃ i198 : Int, r193 = (.tuple #[(.agg #[(.int .i64 i195), (.int .u64 i196), (.int .u32 i197)]), (.int .i64 i198)]) ∧
    ((List.length ([(.int .i64 i195), (.int .u64 i196), (.int .u32 i197)] : List Value) = 3) ∧ ∃ h199 : AH, stN h194 h190.next 0 ([(.int .i64 i195), (.int .u64 i196), (.int .u32 i197)] : List Value) = some h199 ∧
    (((i198 : Int) = 0 → ∃ l200 : List Value, ldN h199 h8.next 0 51 = some l200 ∧
    (∃ i201 : Int, ∃ i202 : Int, ∃ i203 : Int, ldN h199 h.next 0 3 = some ([(.int .i64 i201), (.int .u64 i202), (.int .u32 i203)] : List Value) ∧
    (Wf Try.prog K 61 [(.agg l200.toArray), (.agg #[(.int .i64 i201), (.int .u64 i202), (.int .u32 i203)]), (.int .i64 ia2)] h199 fun r204 h205 =>
    (∃ (p206 : Option Addr) (n207 c208 : Nat), r204 = (.slice p206 n207 c208) ∧
    (∃ i209 : Int, ∃ i210 : Int, ∃ i211 : Int, ldN h205 h190.next 0 3 = some ([(.int .i64 i209), (.int .u64 i210), (.int .u32 i211)] : List Value) ∧
    ((List.length ([(.int .i64 i209), (.int .u64 i210), (.int .u32 i211)] : List Value) = 3) ∧ ∃ h212 : AH, stN h205 h0.next 0 ([(.int .i64 i209), (.int .u64 i210), (.int .u32 i211)] : List Value) = some h212 ∧
    ((ldN h199 h190.next 0 3 = some ([(.int .i64 i209), (.int .u64 i210), (.int .u32 i211)] : List Value)) ∧
    ((ldN h205 h190.next 0 3 = some ([(.int .i64 i209), (.int .u64 i210), (.int .u32 i211)] : List Value)) ∧
    (∃ i213 : Int, ∃ i214 : Int, ∃ i215 : Int, ldN h212 h0.next 0 3 = some ([(.int .i64 i213), (.int .u64 i214), (.int .u32 i215)] : List Value) ∧
    (Q (.tuple #[(.agg #[(.int .i64 i213), (.int .u64 i214), (.int .u32 i215)]), (.slice p206 n207 c208), (.int .i64 0)]) h212)))))))))) ∧
    (¬ (i198 : Int) = 0 → ∃ i216 : Int, ∃ i217 : Int, ∃ i218 : Int, ldN h199 h.next 0 3 = some ([(.int .i64 i216), (.int .u64 i217), (.int .u32 i218)] : List Value) ∧
    ((List.length ([(.int .i64 i216), (.int .u64 i217), (.int .u32 i218)] : List Value) = 3) ∧ ∃ h219 : AH, stN h199 h0.next 0 ([(.int .i64 i216), (.int .u64 i217), (.int .u32 i218)] : List Value) = some h219 ∧
    (∃ i220 : Int, ∃ i221 : Int, ∃ i222 : Int, ldN h219 h0.next 0 3 = some ([(.int .i64 i220), (.int .u64 i221), (.int .u32 i222)] : List Value) ∧
    (Q (.tuple #[(.agg #[(.int .i64 i220), (.int .u64 i221), (.int .u32 i222)]), (.slice none 0 0), (.int .i64 i198)]) h219))))))))) ∧
    (¬ (0 : Int) < 1 → ∃ l223 : List Value, ldN h191 h8.next 0 51 = some l223 ∧
    (∃ i224 : Int, ∃ i225 : Int, ∃ i226 : Int, ldN h191 h.next 0 3 = some ([(.int .i64 i224), (.int .u64 i225), (.int .u32 i226)] : List Value) ∧
    (Wf Try.prog K 61 [(.agg l223.toArray), (.agg #[(.int .i64 i224), (.int .u64 i225), (.int .u32 i226)]), (.int .i64 ia2)] h191 fun r227 h228 =>
    (∃ (p229 : Option Addr) (n230 c231 : Nat), r227 = (.slice p229 n230 c231) ∧
    (∃ i232 : Int, ∃ i233 : Int, ∃ i234 : Int, ldN h228 h190.next 0 3 = some ([(.int .i64 i232), (.int .u64 i233), (.int .u32 i234)] : List Value) ∧
    ((List.length ([(.int .i64 i232), (.int .u64 i233), (.int .u32 i234)] : List Value) = 3) ∧ ∃ h235 : AH, stN h228 h0.next 0 ([(.int .i64 i232), (.int .u64 i233), (.int .u32 i234)] : List Value) = some h235 ∧
    ((ldN h191 h190.next 0 3 = some ([(.int .i64 i232), (.int .u64 i233), (.int .u32 i234)] : List Value)) ∧
    ((ldN h228 h190.next 0 3 = some ([(.int .i64 i232), (.int .u64 i233), (.int .u32 i234)] : List Value)) ∧
    (∃ i236 : Int, ∃ i237 : Int, ∃ i238 : Int, ldN h235 h0.next 0 3 = some ([(.int .i64 i236), (.int .u64 i237), (.int .u32 i238)] : List Value) ∧
    (Q (.tuple #[(.agg #[(.int .i64 i236), (.int .u64 i237), (.int .u32 i238)]), (.slice p229 n230 c231), (.int .i64 0)]) h235))))))))))) ∧
    (¬ (i189 : Int) = 0 → ∃ i239 : Int, ∃ i240 : Int, ∃ i241 : Int, ldN h190 h.next 0 3 = some ([(.int .i64 i239), (.int .u64 i240), (.int .u32 i241)] : List Value) ∧
    ((List.length ([(.int .i64 i239), (.int .u64 i240), (.int .u32 i241)] : List Value) = 3) ∧ ∃ h242 : AH, stN h190 h0.next 0 ([(.int .i64 i239), (.int .u64 i240), (.int .u32 i241)] : List Value) = some h242 ∧
    (∃ i243 : Int, ∃ i244 : Int, ∃ i245 : Int, ldN h242 h0.next 0 3 = some ([(.int .i64 i243), (.int .u64 i244), (.int .u32 i245)] : List Value) ∧
    (Q (.tuple #[(.agg #[(.int .i64 i243), (.int .u64 i244), (.int .u32 i245)]), (.slice none 0 0), (.int .i64 i189)]) h242))))))))))) ∧
    (¬ (1 : Int) = 2 → ∀ h246 : AH, h246 = h173.alloc (.cells ([(.int .i64 0), (.int .u64 0), (.int .u32 0)] : List Value) 28 false) →
    ((0 : Int) < 1 → ∃ l247 : List Value, ldN h246 h12.next 0 24 = some l247 ∧
    (Wf Try.prog K 60 [(.pointer pa0), (.agg l247.toArray)] h246 fun r248 h249 =>
    (∃ i250 : Int, ∃ i251 : Int, ∃ i252 : Int, ∃ i253 : Int, r248 = (.tuple #[(.agg #[(.int .i64 i250), (.int .u64 i251), (.int .u32 i252)]), (.int .i64 i253)]) ∧
    ((List.length ([(.int .i64 i250), (.int .u64 i251), (.int .u32 i252)] : List Value) = 3) ∧ ∃ h254 : AH, stN h249 h173.next 0 ([(.int .i64 i250), (.int .u64 i251), (.int .u32 i252)] : List Value) = some h254 ∧
    (((i253 : Int) = 0 → ∃ l255 : List Value, ldN h254 h8.next 0 51 = some l255 ∧
    (∃ i256 : Int, ∃ i257 : Int, ∃ i258 : Int, ldN h254 h.next 0 3 = some ([(.int .i64 i256), (.int .u64 i257), (.int .u32 i258)] : List Value) ∧
    (Wf Try.prog K 61 [(.agg l255.toArray), (.agg #[(.int .i64 i256), (.int .u64 i257), (.int .u32 i258)]), (.int .i64 ia2)] h254 fun r259 h260 =>
    (∃ (p261 : Option Addr) (n262 c263 : Nat), r259 = (.slice p261 n262 c263) ∧
    (∃ i264 : Int, ∃ i265 : Int, ∃ i266 : Int, ldN h260 h173.next 0 3 = some ([(.int .i64 i264), (.int .u64 i265), (.int .u32 i266)] : List Value) ∧
    ((List.length ([(.int .i64 i264), (.int .u64 i265), (.int .u32 i266)] : List Value) = 3) ∧ ∃ h267 : AH, stN h260 h0.next 0 ([(.int .i64 i264), (.int .u64 i265), (.int .u32 i266)] : List Value) = some h267 ∧
    ((ldN h254 h173.next 0 3 = some ([(.int .i64 i264), (.int .u64 i265), (.int .u32 i266)] : List Value)) ∧
    ((ldN h260 h173.next 0 3 = some ([(.int .i64 i264), (.int .u64 i265), (.int .u32 i266)] : List Value)) ∧
    (∃ i268 : Int, ∃ i269 : Int, ∃ i270 : Int, ldN h267 h0.next 0 3 = some ([(.int .i64 i268), (.int .u64 i269), (.int .u32 i270)] : List Value) ∧
    (Q (.tuple #[(.agg #[(.int .i64 i268), (.int .u64 i269), (.int .u32 i270)]), (.slice p261 n262 c263), (.int .i64 0)]) h267)))))))))) ∧
    (¬ (i253 : Int) = 0 → ∃ i271 : Int, ∃ i272 : Int, ∃ i273 : Int, ldN h254 h.next 0 3 = some ([(.int .i64 i271), (.int .u64 i272), (.int .u32 i273)] : List Value) ∧
    ((List.length ([(.int .i64 i271), (.int .u64 i272), (.int .u32 i273)] : List Value) = 3) ∧ ∃ h274 : AH, stN h254 h0.next 0 ([(.int .i64 i271), (.int .u64 i272), (.int .u32 i273)] : List Value) = some h274 ∧
    (∃ i275 : Int, ∃ i276 : Int, ∃ i277 : Int, ldN h274 h0.next 0 3 = some ([(.int .i64 i275), (.int .u64 i276), (.int .u32 i277)] : List Value) ∧
    (Q (.tuple #[(.agg #[(.int .i64 i275), (.int .u64 i276), (.int .u32 i277)]), (.slice none 0 0), (.int .i64 i253)]) h274))))))))) ∧
    (¬ (0 : Int) < 1 → ∃ l278 : List Value, ldN h246 h8.next 0 51 = some l278 ∧
    (∃ i279 : Int, ∃ i280 : Int, ∃ i281 : Int, ldN h246 h.next 0 3 = some ([(.int .i64 i279), (.int .u64 i280), (.int .u32 i281)] : List Value) ∧
    (Wf Try.prog K 61 [(.agg l278.toArray), (.agg #[(.int .i64 i279), (.int .u64 i280), (.int .u32 i281)]), (.int .i64 ia2)] h246 fun r282 h283 =>
    (∃ (p284 : Option Addr) (n285 c286 : Nat), r282 = (.slice p284 n285 c286) ∧
    (∃ i287 : Int, ∃ i288 : Int, ∃ i289 : Int, ldN h283 h173.next 0 3 = some ([(.int .i64 i287), (.int .u64 i288), (.int .u32 i289)] : List Value) ∧
    ((List.length ([(.int .i64 i287), (.int .u64 i288), (.int .u32 i289)] : List Value) = 3) ∧ ∃ h290 : AH, stN h283 h0.next 0 ([(.int .i64 i287), (.int .u64 i288), (.int .u32 i289)] : List Value) = some h290 ∧
    ((ldN h246 h173.next 0 3 = some ([(.int .i64 i287), (.int .u64 i288), (.int .u32 i289)] : List Value)) ∧
    ((ldN h283 h173.next 0 3 = some ([(.int .i64 i287), (.int .u64 i288), (.int .u32 i289)] : List Value)) ∧
    (∃ i291 : Int, ∃ i292 : Int, ∃ i293 : Int, ldN h290 h0.next 0 3 = some ([(.int .i64 i291), (.int .u64 i292), (.int .u32 i293)] : List Value) ∧
    (Q (.tuple #[(.agg #[(.int .i64 i291), (.int .u64 i292), (.int .u32 i293)]), (.slice p284 n285 c286), (.int .i64 0)]) h290)))))))))))))))))) ∨ (r167 = (.bool false) ∧
    (Wf Try.prog K 52 [(.pointer pa0)] h168 fun r294 h295 =>
    (∃ p296 : Option Addr, r294 = (.pointer p296) ∧
    (Wf Try.prog K 53 [(.pointer p296)] h295 fun r297 h298 =>
    (∃ i299 : Int, r297 = (.int .i64 i299) ∧
    (((i299 : Int) < 2 → ∃ i300 : Int, ∃ i301 : Int, ∃ i302 : Int, ldN h298 h.next 0 3 = some ([(.int .i64 i300), (.int .u64 i301), (.int .u32 i302)] : List Value) ∧
    ((List.length ([(.int .i64 i300), (.int .u64 i301), (.int .u32 i302)] : List Value) = 3) ∧ ∃ h303 : AH, stN h298 h0.next 0 ([(.int .i64 i300), (.int .u64 i301), (.int .u32 i302)] : List Value) = some h303 ∧
    (∃ i304 : Int, ∃ i305 : Int, ∃ i306 : Int, ldN h303 h0.next 0 3 = some ([(.int .i64 i304), (.int .u64 i305), (.int .u32 i306)] : List Value) ∧
    (Q (.tuple #[(.agg #[(.int .i64 i304), (.int .u64 i305), (.int .u32 i306)]), (.slice none 0 0), (.int .i64 71)]) h303)))) ∧
    (¬ (i299 : Int) < 2 → ((2 : Int) = 2 → (8 ≠ (0 : Int)) ∧ (∀ i307 : Int, i307 = IntKind.wrap .i64 (Int.tdiv ia2 8) → ∃ l308 : List Value, ldN h298 h26.next 0 24 = some l308 ∧
    (Wf Try.prog K 60 [(.pointer pa0), (.agg l308.toArray)] h298 fun r309 h310 =>
    (∃ i311 : Int, ∃ i312 : Int, ∃ i313 : Int, ∃ i314 : Int, r309 = (.tuple #[(.agg #[(.int .i64 i311), (.int .u64 i312), (.int .u32 i313)]), (.int .i64 i314)]) ∧
    (((0 : Int) ≤ i307) ∧ ((i307 : Int) < 8) ∧
    ((List.length ([(.int .i64 i311), (.int .u64 i312), (.int .u32 i313)] : List Value) = 3) ∧ ∃ h315 : AH, stN h310 h12.next (0 + Int.toNat i307 * 3) ([(.int .i64 i311), (.int .u64 i312), (.int .u32 i313)] : List Value) = some h315 ∧
    (((i314 : Int) = 0 → ∀ h316 : AH, h316 = h315.alloc (.cells ([(.int .i64 0), (.int .u64 0), (.int .u32 0)] : List Value) 28 false) →
    ((0 : Int) < 2 → ∃ l317 : List Value, ldN h316 h12.next 0 24 = some l317 ∧
    (Wf Try.prog K 60 [(.pointer pa0), (.agg l317.toArray)] h316 fun r318 h319 =>
    (∃ i320 : Int, ∃ i321 : Int, ∃ i322 : Int, ∃ i323 : Int, r318 = (.tuple #[(.agg #[(.int .i64 i320), (.int .u64 i321), (.int .u32 i322)]), (.int .i64 i323)]) ∧
    ((List.length ([(.int .i64 i320), (.int .u64 i321), (.int .u32 i322)] : List Value) = 3) ∧ ∃ h324 : AH, stN h319 h315.next 0 ([(.int .i64 i320), (.int .u64 i321), (.int .u32 i322)] : List Value) = some h324 ∧
    (((i323 : Int) = 0 → ∃ l325 : List Value, ldN h324 h8.next 0 51 = some l325 ∧
    (∃ i326 : Int, ∃ i327 : Int, ∃ i328 : Int, ldN h324 h.next 0 3 = some ([(.int .i64 i326), (.int .u64 i327), (.int .u32 i328)] : List Value) ∧
    (Wf Try.prog K 61 [(.agg l325.toArray), (.agg #[(.int .i64 i326), (.int .u64 i327), (.int .u32 i328)]), (.int .i64 ia2)] h324 fun r329 h330 =>
    (∃ (p331 : Option Addr) (n332 c333 : Nat), r329 = (.slice p331 n332 c333) ∧
    (∃ i334 : Int, ∃ i335 : Int, ∃ i336 : Int, ldN h330 h315.next 0 3 = some ([(.int .i64 i334), (.int .u64 i335), (.int .u32 i336)] : List Value) ∧
    ((List.length ([(.int .i64 i334), (.int .u64 i335), (.int .u32 i336)] : List Value) = 3) ∧ ∃ h337 : AH, stN h330 h0.next 0 ([(.int .i64 i334), (.int .u64 i335), (.int .u32 i336)] : List Value) = some h337 ∧
    ((ldN h324 h315.next 0 3 = some ([(.int .i64 i334), (.int .u64 i335), (.int .u32 i336)] : List Value)) ∧
    ((ldN h330 h315.next 0 3 = some ([(.int .i64 i334), (.int .u64 i335), (.int .u32 i336)] : List Value)) ∧
    (∃ i338 : Int, ∃ i339 : Int, ∃ i340 : Int, ldN h337 h0.next 0 3 = some ([(.int .i64 i338), (.int .u64 i339), (.int .u32 i340)] : List Value) ∧
    (Q (.tuple #[(.agg #[(.int .i64 i338), (.int .u64 i339), (.int .u32 i340)]), (.slice p331 n332 c333), (.int .i64 0)]) h337)))))))))) ∧
    (¬ (i323 : Int) = 0 → ∃ i341 : Int, ∃ i342 : Int, ∃ i343 : Int, ldN h324 h.next 0 3 = some ([(.int .i64 i341), (.int .u64 i342), (.int .u32 i343)] : List Value) ∧
    ((List.length ([(.int .i64 i341), (.int .u64 i342), (.int .u32 i343)] : List Value) = 3) ∧ ∃ h344 : AH, stN h324 h0.next 0 ([(.int .i64 i341), (.int .u64 i342), (.int .u32 i343)] : List Value) = some h344 ∧
    (∃ i345 : Int, ∃ i346 : Int, ∃ i347 : Int, ldN h344 h0.next 0 3 = some ([(.int .i64 i345), (.int .u64 i346), (.int .u32 i347)] : List Value) ∧
    (Q (.tuple #[(.agg #[(.int .i64 i345), (.int .u64 i346), (.int .u32 i347)]), (.slice none 0 0), (.int .i64 i323)]) h344))))))))) ∧
    (¬ (0 : Int) < 2 → ∃ l348 : List Value, ldN h316 h8.next 0 51 = some l348 ∧
    (∃ i349 : Int, ∃ i350 : Int, ∃ i351 : Int, ldN h316 h.next 0 3 = some ([(.int .i64 i349), (.int .u64 i350), (.int .u32 i351)] : List Value) ∧
    (Wf Try.prog K 61 [(.agg l348.toArray), (.agg #[(.int .i64 i349), (.int .u64 i350), (.int .u32 i351)]), (.int .i64 ia2)] h316 fun r352 h353 =>
    (∃ (p354 : Option Addr) (n355 c356 : Nat), r352 = (.slice p354 n355 c356) ∧
    (∃ i357 : Int, ∃ i358 : Int, ∃ i359 : Int, ldN h353 h315.next 0 3 = some ([(.int .i64 i357), (.int .u64 i358), (.int .u32 i359)] : List Value) ∧
    ((List.length ([(.int .i64 i357), (.int .u64 i358), (.int .u32 i359)] : List Value) = 3) ∧ ∃ h360 : AH, stN h353 h0.next 0 ([(.int .i64 i357), (.int .u64 i358), (.int .u32 i359)] : List Value) = some h360 ∧
    ((ldN h316 h315.next 0 3 = some ([(.int .i64 i357), (.int .u64 i358), (.int .u32 i359)] : List Value)) ∧
    ((ldN h353 h315.next 0 3 = some ([(.int .i64 i357), (.int .u64 i358), (.int .u32 i359)] : List Value)) ∧
    (∃ i361 : Int, ∃ i362 : Int, ∃ i363 : Int, ldN h360 h0.next 0 3 = some ([(.int .i64 i361), (.int .u64 i362), (.int .u32 i363)] : List Value) ∧
    (Q (.tuple #[(.agg #[(.int .i64 i361), (.int .u64 i362), (.int .u32 i363)]), (.slice p354 n355 c356), (.int .i64 0)]) h360))))))))))) ∧
    (¬ (i314 : Int) = 0 → ∃ i364 : Int, ∃ i365 : Int, ∃ i366 : Int, ldN h315 h.next 0 3 = some ([(.int .i64 i364), (.int .u64 i365), (.int .u32 i366)] : List Value) ∧
    ((List.length ([(.int .i64 i364), (.int .u64 i365), (.int .u32 i366)] : List Value) = 3) ∧ ∃ h367 : AH, stN h315 h0.next 0 ([(.int .i64 i364), (.int .u64 i365), (.int .u32 i366)] : List Value) = some h367 ∧
    (∃ i368 : Int, ∃ i369 : Int, ∃ i370 : Int, ldN h367 h0.next 0 3 = some ([(.int .i64 i368), (.int .u64 i369), (.int .u32 i370)] : List Value) ∧
    (Q (.tuple #[(.agg #[(.int .i64 i368), (.int .u64 i369), (.int .u32 i370)]), (.slice none 0 0), (.int .i64 i314)]) h367))))))))))) ∧
    (¬ (2 : Int) = 2 → ∀ h371 : AH, h371 = h298.alloc (.cells ([(.int .i64 0), (.int .u64 0), (.int .u32 0)] : List Value) 28 false) →
    ((0 : Int) < 2 → ∃ l372 : List Value, ldN h371 h12.next 0 24 = some l372 ∧
    (Wf Try.prog K 60 [(.pointer pa0), (.agg l372.toArray)] h371 fun r373 h374 =>
    (∃ i375 : Int, ∃ i376 : Int, ∃ i377 : Int, ∃ i378 : Int, r373 = (.tuple #[(.agg #[(.int .i64 i375), (.int .u64 i376), (.int .u32 i377)]), (.int .i64 i378)]) ∧
    ((List.length ([(.int .i64 i375), (.int .u64 i376), (.int .u32 i377)] : List Value) = 3) ∧ ∃ h379 : AH, stN h374 h298.next 0 ([(.int .i64 i375), (.int .u64 i376), (.int .u32 i377)] : List Value) = some h379 ∧
    (((i378 : Int) = 0 → ∃ l380 : List Value, ldN h379 h8.next 0 51 = some l380 ∧
    (∃ i381 : Int, ∃ i382 : Int, ∃ i383 : Int, ldN h379 h.next 0 3 = some ([(.int .i64 i381), (.int .u64 i382), (.int .u32 i383)] : List Value) ∧
    (Wf Try.prog K 61 [(.agg l380.toArray), (.agg #[(.int .i64 i381), (.int .u64 i382), (.int .u32 i383)]), (.int .i64 ia2)] h379 fun r384 h385 =>
    (∃ (p386 : Option Addr) (n387 c388 : Nat), r384 = (.slice p386 n387 c388) ∧
    (∃ i389 : Int, ∃ i390 : Int, ∃ i391 : Int, ldN h385 h298.next 0 3 = some ([(.int .i64 i389), (.int .u64 i390), (.int .u32 i391)] : List Value) ∧
    ((List.length ([(.int .i64 i389), (.int .u64 i390), (.int .u32 i391)] : List Value) = 3) ∧ ∃ h392 : AH, stN h385 h0.next 0 ([(.int .i64 i389), (.int .u64 i390), (.int .u32 i391)] : List Value) = some h392 ∧
    ((ldN h379 h298.next 0 3 = some ([(.int .i64 i389), (.int .u64 i390), (.int .u32 i391)] : List Value)) ∧
    ((ldN h385 h298.next 0 3 = some ([(.int .i64 i389), (.int .u64 i390), (.int .u32 i391)] : List Value)) ∧
    (∃ i393 : Int, ∃ i394 : Int, ∃ i395 : Int, ldN h392 h0.next 0 3 = some ([(.int .i64 i393), (.int .u64 i394), (.int .u32 i395)] : List Value) ∧
    (Q (.tuple #[(.agg #[(.int .i64 i393), (.int .u64 i394), (.int .u32 i395)]), (.slice p386 n387 c388), (.int .i64 0)]) h392)))))))))) ∧
    (¬ (i378 : Int) = 0 → ∃ i396 : Int, ∃ i397 : Int, ∃ i398 : Int, ldN h379 h.next 0 3 = some ([(.int .i64 i396), (.int .u64 i397), (.int .u32 i398)] : List Value) ∧
    ((List.length ([(.int .i64 i396), (.int .u64 i397), (.int .u32 i398)] : List Value) = 3) ∧ ∃ h399 : AH, stN h379 h0.next 0 ([(.int .i64 i396), (.int .u64 i397), (.int .u32 i398)] : List Value) = some h399 ∧
    (∃ i400 : Int, ∃ i401 : Int, ∃ i402 : Int, ldN h399 h0.next 0 3 = some ([(.int .i64 i400), (.int .u64 i401), (.int .u32 i402)] : List Value) ∧
    (Q (.tuple #[(.agg #[(.int .i64 i400), (.int .u64 i401), (.int .u32 i402)]), (.slice none 0 0), (.int .i64 i378)]) h399))))))))) ∧
    (¬ (0 : Int) < 2 → ∃ l403 : List Value, ldN h371 h8.next 0 51 = some l403 ∧
    (∃ i404 : Int, ∃ i405 : Int, ∃ i406 : Int, ldN h371 h.next 0 3 = some ([(.int .i64 i404), (.int .u64 i405), (.int .u32 i406)] : List Value) ∧
    (Wf Try.prog K 61 [(.agg l403.toArray), (.agg #[(.int .i64 i404), (.int .u64 i405), (.int .u32 i406)]), (.int .i64 ia2)] h371 fun r407 h408 =>
    (∃ (p409 : Option Addr) (n410 c411 : Nat), r407 = (.slice p409 n410 c411) ∧
    (∃ i412 : Int, ∃ i413 : Int, ∃ i414 : Int, ldN h408 h298.next 0 3 = some ([(.int .i64 i412), (.int .u64 i413), (.int .u32 i414)] : List Value) ∧
    ((List.length ([(.int .i64 i412), (.int .u64 i413), (.int .u32 i414)] : List Value) = 3) ∧ ∃ h415 : AH, stN h408 h0.next 0 ([(.int .i64 i412), (.int .u64 i413), (.int .u32 i414)] : List Value) = some h415 ∧
    ((ldN h371 h298.next 0 3 = some ([(.int .i64 i412), (.int .u64 i413), (.int .u32 i414)] : List Value)) ∧
    ((ldN h408 h298.next 0 3 = some ([(.int .i64 i412), (.int .u64 i413), (.int .u32 i414)] : List Value)) ∧
    (∃ i416 : Int, ∃ i417 : Int, ∃ i418 : Int, ldN h415 h0.next 0 3 = some ([(.int .i64 i416), (.int .u64 i417), (.int .u32 i418)] : List Value) ∧
    (Q (.tuple #[(.agg #[(.int .i64 i416), (.int .u64 i417), (.int .u32 i418)]), (.slice p409 n410 c411), (.int .i64 0)]) h415)))))))))))))))))))))))))))) ∨ (r36 = (.bool false) ∧
    (∃ l419 : List Value, ldN h37 h26.next 0 24 = some l419 ∧
    (Wf Try.prog K 59 [(.agg l419.toArray)] h37 fun r420 h421 =>
    (((r420 = (.bool true) ∧
    (Wf Try.prog K 52 [(.pointer pa0)] h421 fun r422 h423 =>
    (∃ p424 : Option Addr, r422 = (.pointer p424) ∧
    (Wf Try.prog K 53 [(.pointer p424)] h423 fun r425 h426 =>
    (∃ i427 : Int, r425 = (.int .i64 i427) ∧
    (((i427 : Int) < 1 → ∃ i428 : Int, ∃ i429 : Int, ∃ i430 : Int, ldN h426 h.next 0 3 = some ([(.int .i64 i428), (.int .u64 i429), (.int .u32 i430)] : List Value) ∧
    ((List.length ([(.int .i64 i428), (.int .u64 i429), (.int .u32 i430)] : List Value) = 3) ∧ ∃ h431 : AH, stN h426 h0.next 0 ([(.int .i64 i428), (.int .u64 i429), (.int .u32 i430)] : List Value) = some h431 ∧
    (∃ i432 : Int, ∃ i433 : Int, ∃ i434 : Int, ldN h431 h0.next 0 3 = some ([(.int .i64 i432), (.int .u64 i433), (.int .u32 i434)] : List Value) ∧
    (Q (.tuple #[(.agg #[(.int .i64 i432), (.int .u64 i433), (.int .u32 i434)]), (.slice none 0 0), (.int .i64 71)]) h431)))) ∧
    (¬ (i427 : Int) < 1 → ((1 : Int) = 2 → (8 ≠ (0 : Int)) ∧ (∀ i435 : Int, i435 = IntKind.wrap .i64 (Int.tdiv ia2 8) → ∃ l436 : List Value, ldN h426 h26.next 0 24 = some l436 ∧
    (Wf Try.prog K 60 [(.pointer pa0), (.agg l436.toArray)] h426 fun r437 h438 =>
    (∃ i439 : Int, ∃ i440 : Int, ∃ i441 : Int, ∃ i442 : Int, r437 = (.tuple #[(.agg #[(.int .i64 i439), (.int .u64 i440), (.int .u32 i441)]), (.int .i64 i442)]) ∧
    (((0 : Int) ≤ i435) ∧ ((i435 : Int) < 8) ∧
    ((List.length ([(.int .i64 i439), (.int .u64 i440), (.int .u32 i441)] : List Value) = 3) ∧ ∃ h443 : AH, stN h438 h12.next (0 + Int.toNat i435 * 3) ([(.int .i64 i439), (.int .u64 i440), (.int .u32 i441)] : List Value) = some h443 ∧
    (((i442 : Int) = 0 → ∀ h444 : AH, h444 = h443.alloc (.cells ([(.int .i64 0), (.int .u64 0), (.int .u32 0)] : List Value) 28 false) →
    ((0 : Int) < 1 → ∃ l445 : List Value, ldN h444 h12.next 0 24 = some l445 ∧
    (Wf Try.prog K 60 [(.pointer pa0), (.agg l445.toArray)] h444 fun r446 h447 =>
    (∃ i448 : Int, ∃ i449 : Int, ∃ i450 : Int, ∃ i451 : Int, r446 = (.tuple #[(.agg #[(.int .i64 i448), (.int .u64 i449), (.int .u32 i450)]), (.int .i64 i451)]) ∧
    ((List.length ([(.int .i64 i448), (.int .u64 i449), (.int .u32 i450)] : List Value) = 3) ∧ ∃ h452 : AH, stN h447 h443.next 0 ([(.int .i64 i448), (.int .u64 i449), (.int .u32 i450)] : List Value) = some h452 ∧
    (((i451 : Int) = 0 → ∃ l453 : List Value, ldN h452 h8.next 0 51 = some l453 ∧
    (∃ i454 : Int, ∃ i455 : Int, ∃ i456 : Int, ldN h452 h.next 0 3 = some ([(.int .i64 i454), (.int .u64 i455), (.int .u32 i456)] : List Value) ∧
    (Wf Try.prog K 61 [(.agg l453.toArray), (.agg #[(.int .i64 i454), (.int .u64 i455), (.int .u32 i456)]), (.int .i64 ia2)] h452 fun r457 h458 =>
    (∃ (p459 : Option Addr) (n460 c461 : Nat), r457 = (.slice p459 n460 c461) ∧
    (∃ i462 : Int, ∃ i463 : Int, ∃ i464 : Int, ldN h458 h443.next 0 3 = some ([(.int .i64 i462), (.int .u64 i463), (.int .u32 i464)] : List Value) ∧
    ((List.length ([(.int .i64 i462), (.int .u64 i463), (.int .u32 i464)] : List Value) = 3) ∧ ∃ h465 : AH, stN h458 h0.next 0 ([(.int .i64 i462), (.int .u64 i463), (.int .u32 i464)] : List Value) = some h465 ∧
    ((ldN h452 h443.next 0 3 = some ([(.int .i64 i462), (.int .u64 i463), (.int .u32 i464)] : List Value)) ∧
    ((ldN h458 h443.next 0 3 = some ([(.int .i64 i462), (.int .u64 i463), (.int .u32 i464)] : List Value)) ∧
    (∃ i466 : Int, ∃ i467 : Int, ∃ i468 : Int, ldN h465 h0.next 0 3 = some ([(.int .i64 i466), (.int .u64 i467), (.int .u32 i468)] : List Value) ∧
    (Q (.tuple #[(.agg #[(.int .i64 i466), (.int .u64 i467), (.int .u32 i468)]), (.slice p459 n460 c461), (.int .i64 0)]) h465)))))))))) ∧
    (¬ (i451 : Int) = 0 → ∃ i469 : Int, ∃ i470 : Int, ∃ i471 : Int, ldN h452 h.next 0 3 = some ([(.int .i64 i469), (.int .u64 i470), (.int .u32 i471)] : List Value) ∧
    ((List.length ([(.int .i64 i469), (.int .u64 i470), (.int .u32 i471)] : List Value) = 3) ∧ ∃ h472 : AH, stN h452 h0.next 0 ([(.int .i64 i469), (.int .u64 i470), (.int .u32 i471)] : List Value) = some h472 ∧
    (∃ i473 : Int, ∃ i474 : Int, ∃ i475 : Int, ldN h472 h0.next 0 3 = some ([(.int .i64 i473), (.int .u64 i474), (.int .u32 i475)] : List Value) ∧
    (Q (.tuple #[(.agg #[(.int .i64 i473), (.int .u64 i474), (.int .u32 i475)]), (.slice none 0 0), (.int .i64 i451)]) h472))))))))) ∧
    (¬ (0 : Int) < 1 → ∃ l476 : List Value, ldN h444 h8.next 0 51 = some l476 ∧
    (∃ i477 : Int, ∃ i478 : Int, ∃ i479 : Int, ldN h444 h.next 0 3 = some ([(.int .i64 i477), (.int .u64 i478), (.int .u32 i479)] : List Value) ∧
    (Wf Try.prog K 61 [(.agg l476.toArray), (.agg #[(.int .i64 i477), (.int .u64 i478), (.int .u32 i479)]), (.int .i64 ia2)] h444 fun r480 h481 =>
    (∃ (p482 : Option Addr) (n483 c484 : Nat), r480 = (.slice p482 n483 c484) ∧
    (∃ i485 : Int, ∃ i486 : Int, ∃ i487 : Int, ldN h481 h443.next 0 3 = some ([(.int .i64 i485), (.int .u64 i486), (.int .u32 i487)] : List Value) ∧
    ((List.length ([(.int .i64 i485), (.int .u64 i486), (.int .u32 i487)] : List Value) = 3) ∧ ∃ h488 : AH, stN h481 h0.next 0 ([(.int .i64 i485), (.int .u64 i486), (.int .u32 i487)] : List Value) = some h488 ∧
    ((ldN h444 h443.next 0 3 = some ([(.int .i64 i485), (.int .u64 i486), (.int .u32 i487)] : List Value)) ∧
    ((ldN h481 h443.next 0 3 = some ([(.int .i64 i485), (.int .u64 i486), (.int .u32 i487)] : List Value)) ∧
    (∃ i489 : Int, ∃ i490 : Int, ∃ i491 : Int, ldN h488 h0.next 0 3 = some ([(.int .i64 i489), (.int .u64 i490), (.int .u32 i491)] : List Value) ∧
    (Q (.tuple #[(.agg #[(.int .i64 i489), (.int .u64 i490), (.int .u32 i491)]), (.slice p482 n483 c484), (.int .i64 0)]) h488))))))))))) ∧
    (¬ (i442 : Int) = 0 → ∃ i492 : Int, ∃ i493 : Int, ∃ i494 : Int, ldN h443 h.next 0 3 = some ([(.int .i64 i492), (.int .u64 i493), (.int .u32 i494)] : List Value) ∧
    ((List.length ([(.int .i64 i492), (.int .u64 i493), (.int .u32 i494)] : List Value) = 3) ∧ ∃ h495 : AH, stN h443 h0.next 0 ([(.int .i64 i492), (.int .u64 i493), (.int .u32 i494)] : List Value) = some h495 ∧
    (∃ i496 : Int, ∃ i497 : Int, ∃ i498 : Int, ldN h495 h0.next 0 3 = some ([(.int .i64 i496), (.int .u64 i497), (.int .u32 i498)] : List Value) ∧
    (Q (.tuple #[(.agg #[(.int .i64 i496), (.int .u64 i497), (.int .u32 i498)]), (.slice none 0 0), (.int .i64 i442)]) h495))))))))))) ∧
    (¬ (1 : Int) = 2 → ∀ h499 : AH, h499 = h426.alloc (.cells ([(.int .i64 0), (.int .u64 0), (.int .u32 0)] : List Value) 28 false) →
    ((0 : Int) < 1 → ∃ l500 : List Value, ldN h499 h12.next 0 24 = some l500 ∧
    (Wf Try.prog K 60 [(.pointer pa0), (.agg l500.toArray)] h499 fun r501 h502 =>
    (∃ i503 : Int, ∃ i504 : Int, ∃ i505 : Int, ∃ i506 : Int, r501 = (.tuple #[(.agg #[(.int .i64 i503), (.int .u64 i504), (.int .u32 i505)]), (.int .i64 i506)]) ∧
    ((List.length ([(.int .i64 i503), (.int .u64 i504), (.int .u32 i505)] : List Value) = 3) ∧ ∃ h507 : AH, stN h502 h426.next 0 ([(.int .i64 i503), (.int .u64 i504), (.int .u32 i505)] : List Value) = some h507 ∧
    (((i506 : Int) = 0 → ∃ l508 : List Value, ldN h507 h8.next 0 51 = some l508 ∧
    (∃ i509 : Int, ∃ i510 : Int, ∃ i511 : Int, ldN h507 h.next 0 3 = some ([(.int .i64 i509), (.int .u64 i510), (.int .u32 i511)] : List Value) ∧
    (Wf Try.prog K 61 [(.agg l508.toArray), (.agg #[(.int .i64 i509), (.int .u64 i510), (.int .u32 i511)]), (.int .i64 ia2)] h507 fun r512 h513 =>
    (∃ (p514 : Option Addr) (n515 c516 : Nat), r512 = (.slice p514 n515 c516) ∧
    (∃ i517 : Int, ∃ i518 : Int, ∃ i519 : Int, ldN h513 h426.next 0 3 = some ([(.int .i64 i517), (.int .u64 i518), (.int .u32 i519)] : List Value) ∧
    ((List.length ([(.int .i64 i517), (.int .u64 i518), (.int .u32 i519)] : List Value) = 3) ∧ ∃ h520 : AH, stN h513 h0.next 0 ([(.int .i64 i517), (.int .u64 i518), (.int .u32 i519)] : List Value) = some h520 ∧
    ((ldN h507 h426.next 0 3 = some ([(.int .i64 i517), (.int .u64 i518), (.int .u32 i519)] : List Value)) ∧
    ((ldN h513 h426.next 0 3 = some ([(.int .i64 i517), (.int .u64 i518), (.int .u32 i519)] : List Value)) ∧
    (∃ i521 : Int, ∃ i522 : Int, ∃ i523 : Int, ldN h520 h0.next 0 3 = some ([(.int .i64 i521), (.int .u64 i522), (.int .u32 i523)] : List Value) ∧
    (Q (.tuple #[(.agg #[(.int .i64 i521), (.int .u64 i522), (.int .u32 i523)]), (.slice p514 n515 c516), (.int .i64 0)]) h520)))))))))) ∧
    (¬ (i506 : Int) = 0 → ∃ i524 : Int, ∃ i525 : Int, ∃ i526 : Int, ldN h507 h.next 0 3 = some ([(.int .i64 i524), (.int .u64 i525), (.int .u32 i526)] : List Value) ∧
    ((List.length ([(.int .i64 i524), (.int .u64 i525), (.int .u32 i526)] : List Value) = 3) ∧ ∃ h527 : AH, stN h507 h0.next 0 ([(.int .i64 i524), (.int .u64 i525), (.int .u32 i526)] : List Value) = some h527 ∧
    (∃ i528 : Int, ∃ i529 : Int, ∃ i530 : Int, ldN h527 h0.next 0 3 = some ([(.int .i64 i528), (.int .u64 i529), (.int .u32 i530)] : List Value) ∧
    (Q (.tuple #[(.agg #[(.int .i64 i528), (.int .u64 i529), (.int .u32 i530)]), (.slice none 0 0), (.int .i64 i506)]) h527))))))))) ∧
    (¬ (0 : Int) < 1 → ∃ l531 : List Value, ldN h499 h8.next 0 51 = some l531 ∧
    (∃ i532 : Int, ∃ i533 : Int, ∃ i534 : Int, ldN h499 h.next 0 3 = some ([(.int .i64 i532), (.int .u64 i533), (.int .u32 i534)] : List Value) ∧
    (Wf Try.prog K 61 [(.agg l531.toArray), (.agg #[(.int .i64 i532), (.int .u64 i533), (.int .u32 i534)]), (.int .i64 ia2)] h499 fun r535 h536 =>
    (∃ (p537 : Option Addr) (n538 c539 : Nat), r535 = (.slice p537 n538 c539) ∧
    (∃ i540 : Int, ∃ i541 : Int, ∃ i542 : Int, ldN h536 h426.next 0 3 = some ([(.int .i64 i540), (.int .u64 i541), (.int .u32 i542)] : List Value) ∧
    ((List.length ([(.int .i64 i540), (.int .u64 i541), (.int .u32 i542)] : List Value) = 3) ∧ ∃ h543 : AH, stN h536 h0.next 0 ([(.int .i64 i540), (.int .u64 i541), (.int .u32 i542)] : List Value) = some h543 ∧
    ((ldN h499 h426.next 0 3 = some ([(.int .i64 i540), (.int .u64 i541), (.int .u32 i542)] : List Value)) ∧
    ((ldN h536 h426.next 0 3 = some ([(.int .i64 i540), (.int .u64 i541), (.int .u32 i542)] : List Value)) ∧
    (∃ i544 : Int, ∃ i545 : Int, ∃ i546 : Int, ldN h543 h0.next 0 3 = some ([(.int .i64 i544), (.int .u64 i545), (.int .u32 i546)] : List Value) ∧
    (Q (.tuple #[(.agg #[(.int .i64 i544), (.int .u64 i545), (.int .u32 i546)]), (.slice p537 n538 c539), (.int .i64 0)]) h543)))))))))))))))))) ∨ (r420 = (.bool false) ∧
    (Wf Try.prog K 52 [(.pointer pa0)] h421 fun r547 h548 =>
    (∃ p549 : Option Addr, r547 = (.pointer p549) ∧
    (Wf Try.prog K 53 [(.pointer p549)] h548 fun r550 h551 =>
    (∃ i552 : Int, r550 = (.int .i64 i552) ∧
    (((i552 : Int) < 2 → ∃ i553 : Int, ∃ i554 : Int, ∃ i555 : Int, ldN h551 h.next 0 3 = some ([(.int .i64 i553), (.int .u64 i554), (.int .u32 i555)] : List Value) ∧
    ((List.length ([(.int .i64 i553), (.int .u64 i554), (.int .u32 i555)] : List Value) = 3) ∧ ∃ h556 : AH, stN h551 h0.next 0 ([(.int .i64 i553), (.int .u64 i554), (.int .u32 i555)] : List Value) = some h556 ∧
    (∃ i557 : Int, ∃ i558 : Int, ∃ i559 : Int, ldN h556 h0.next 0 3 = some ([(.int .i64 i557), (.int .u64 i558), (.int .u32 i559)] : List Value) ∧
    (Q (.tuple #[(.agg #[(.int .i64 i557), (.int .u64 i558), (.int .u32 i559)]), (.slice none 0 0), (.int .i64 71)]) h556)))) ∧
    (¬ (i552 : Int) < 2 → ((2 : Int) = 2 → (8 ≠ (0 : Int)) ∧ (∀ i560 : Int, i560 = IntKind.wrap .i64 (Int.tdiv ia2 8) → ∃ l561 : List Value, ldN h551 h26.next 0 24 = some l561 ∧
    (Wf Try.prog K 60 [(.pointer pa0), (.agg l561.toArray)] h551 fun r562 h563 =>
    (∃ i564 : Int, ∃ i565 : Int, ∃ i566 : Int, ∃ i567 : Int, r562 = (.tuple #[(.agg #[(.int .i64 i564), (.int .u64 i565), (.int .u32 i566)]), (.int .i64 i567)]) ∧
    (((0 : Int) ≤ i560) ∧ ((i560 : Int) < 8) ∧
    ((List.length ([(.int .i64 i564), (.int .u64 i565), (.int .u32 i566)] : List Value) = 3) ∧ ∃ h568 : AH, stN h563 h12.next (0 + Int.toNat i560 * 3) ([(.int .i64 i564), (.int .u64 i565), (.int .u32 i566)] : List Value) = some h568 ∧
    (((i567 : Int) = 0 → ∀ h569 : AH, h569 = h568.alloc (.cells ([(.int .i64 0), (.int .u64 0), (.int .u32 0)] : List Value) 28 false) →
    ((0 : Int) < 2 → ∃ l570 : List Value, ldN h569 h12.next 0 24 = some l570 ∧
    (Wf Try.prog K 60 [(.pointer pa0), (.agg l570.toArray)] h569 fun r571 h572 =>
    (∃ i573 : Int, ∃ i574 : Int, ∃ i575 : Int, ∃ i576 : Int, r571 = (.tuple #[(.agg #[(.int .i64 i573), (.int .u64 i574), (.int .u32 i575)]), (.int .i64 i576)]) ∧
    ((List.length ([(.int .i64 i573), (.int .u64 i574), (.int .u32 i575)] : List Value) = 3) ∧ ∃ h577 : AH, stN h572 h568.next 0 ([(.int .i64 i573), (.int .u64 i574), (.int .u32 i575)] : List Value) = some h577 ∧
    (((i576 : Int) = 0 → ∃ l578 : List Value, ldN h577 h8.next 0 51 = some l578 ∧
    (∃ i579 : Int, ∃ i580 : Int, ∃ i581 : Int, ldN h577 h.next 0 3 = some ([(.int .i64 i579), (.int .u64 i580), (.int .u32 i581)] : List Value) ∧
    (Wf Try.prog K 61 [(.agg l578.toArray), (.agg #[(.int .i64 i579), (.int .u64 i580), (.int .u32 i581)]), (.int .i64 ia2)] h577 fun r582 h583 =>
    (∃ (p584 : Option Addr) (n585 c586 : Nat), r582 = (.slice p584 n585 c586) ∧
    (∃ i587 : Int, ∃ i588 : Int, ∃ i589 : Int, ldN h583 h568.next 0 3 = some ([(.int .i64 i587), (.int .u64 i588), (.int .u32 i589)] : List Value) ∧
    ((List.length ([(.int .i64 i587), (.int .u64 i588), (.int .u32 i589)] : List Value) = 3) ∧ ∃ h590 : AH, stN h583 h0.next 0 ([(.int .i64 i587), (.int .u64 i588), (.int .u32 i589)] : List Value) = some h590 ∧
    ((ldN h577 h568.next 0 3 = some ([(.int .i64 i587), (.int .u64 i588), (.int .u32 i589)] : List Value)) ∧
    ((ldN h583 h568.next 0 3 = some ([(.int .i64 i587), (.int .u64 i588), (.int .u32 i589)] : List Value)) ∧
    (∃ i591 : Int, ∃ i592 : Int, ∃ i593 : Int, ldN h590 h0.next 0 3 = some ([(.int .i64 i591), (.int .u64 i592), (.int .u32 i593)] : List Value) ∧
    (Q (.tuple #[(.agg #[(.int .i64 i591), (.int .u64 i592), (.int .u32 i593)]), (.slice p584 n585 c586), (.int .i64 0)]) h590)))))))))) ∧
    (¬ (i576 : Int) = 0 → ∃ i594 : Int, ∃ i595 : Int, ∃ i596 : Int, ldN h577 h.next 0 3 = some ([(.int .i64 i594), (.int .u64 i595), (.int .u32 i596)] : List Value) ∧
    ((List.length ([(.int .i64 i594), (.int .u64 i595), (.int .u32 i596)] : List Value) = 3) ∧ ∃ h597 : AH, stN h577 h0.next 0 ([(.int .i64 i594), (.int .u64 i595), (.int .u32 i596)] : List Value) = some h597 ∧
    (∃ i598 : Int, ∃ i599 : Int, ∃ i600 : Int, ldN h597 h0.next 0 3 = some ([(.int .i64 i598), (.int .u64 i599), (.int .u32 i600)] : List Value) ∧
    (Q (.tuple #[(.agg #[(.int .i64 i598), (.int .u64 i599), (.int .u32 i600)]), (.slice none 0 0), (.int .i64 i576)]) h597))))))))) ∧
    (¬ (0 : Int) < 2 → ∃ l601 : List Value, ldN h569 h8.next 0 51 = some l601 ∧
    (∃ i602 : Int, ∃ i603 : Int, ∃ i604 : Int, ldN h569 h.next 0 3 = some ([(.int .i64 i602), (.int .u64 i603), (.int .u32 i604)] : List Value) ∧
    (Wf Try.prog K 61 [(.agg l601.toArray), (.agg #[(.int .i64 i602), (.int .u64 i603), (.int .u32 i604)]), (.int .i64 ia2)] h569 fun r605 h606 =>
    (∃ (p607 : Option Addr) (n608 c609 : Nat), r605 = (.slice p607 n608 c609) ∧
    (∃ i610 : Int, ∃ i611 : Int, ∃ i612 : Int, ldN h606 h568.next 0 3 = some ([(.int .i64 i610), (.int .u64 i611), (.int .u32 i612)] : List Value) ∧
    ((List.length ([(.int .i64 i610), (.int .u64 i611), (.int .u32 i612)] : List Value) = 3) ∧ ∃ h613 : AH, stN h606 h0.next 0 ([(.int .i64 i610), (.int .u64 i611), (.int .u32 i612)] : List Value) = some h613 ∧
    ((ldN h569 h568.next 0 3 = some ([(.int .i64 i610), (.int .u64 i611), (.int .u32 i612)] : List Value)) ∧
    ((ldN h606 h568.next 0 3 = some ([(.int .i64 i610), (.int .u64 i611), (.int .u32 i612)] : List Value)) ∧
    (∃ i614 : Int, ∃ i615 : Int, ∃ i616 : Int, ldN h613 h0.next 0 3 = some ([(.int .i64 i614), (.int .u64 i615), (.int .u32 i616)] : List Value) ∧
    (Q (.tuple #[(.agg #[(.int .i64 i614), (.int .u64 i615), (.int .u32 i616)]), (.slice p607 n608 c609), (.int .i64 0)]) h613))))))))))) ∧
    (¬ (i567 : Int) = 0 → ∃ i617 : Int, ∃ i618 : Int, ∃ i619 : Int, ldN h568 h.next 0 3 = some ([(.int .i64 i617), (.int .u64 i618), (.int .u32 i619)] : List Value) ∧
    ((List.length ([(.int .i64 i617), (.int .u64 i618), (.int .u32 i619)] : List Value) = 3) ∧ ∃ h620 : AH, stN h568 h0.next 0 ([(.int .i64 i617), (.int .u64 i618), (.int .u32 i619)] : List Value) = some h620 ∧
    (∃ i621 : Int, ∃ i622 : Int, ∃ i623 : Int, ldN h620 h0.next 0 3 = some ([(.int .i64 i621), (.int .u64 i622), (.int .u32 i623)] : List Value) ∧
    (Q (.tuple #[(.agg #[(.int .i64 i621), (.int .u64 i622), (.int .u32 i623)]), (.slice none 0 0), (.int .i64 i567)]) h620))))))))))) ∧
    (¬ (2 : Int) = 2 → ∀ h624 : AH, h624 = h551.alloc (.cells ([(.int .i64 0), (.int .u64 0), (.int .u32 0)] : List Value) 28 false) →
    ((0 : Int) < 2 → ∃ l625 : List Value, ldN h624 h12.next 0 24 = some l625 ∧
    (Wf Try.prog K 60 [(.pointer pa0), (.agg l625.toArray)] h624 fun r626 h627 =>
    (∃ i628 : Int, ∃ i629 : Int, ∃ i630 : Int, ∃ i631 : Int, r626 = (.tuple #[(.agg #[(.int .i64 i628), (.int .u64 i629), (.int .u32 i630)]), (.int .i64 i631)]) ∧
    ((List.length ([(.int .i64 i628), (.int .u64 i629), (.int .u32 i630)] : List Value) = 3) ∧ ∃ h632 : AH, stN h627 h551.next 0 ([(.int .i64 i628), (.int .u64 i629), (.int .u32 i630)] : List Value) = some h632 ∧
    (((i631 : Int) = 0 → ∃ l633 : List Value, ldN h632 h8.next 0 51 = some l633 ∧
    (∃ i634 : Int, ∃ i635 : Int, ∃ i636 : Int, ldN h632 h.next 0 3 = some ([(.int .i64 i634), (.int .u64 i635), (.int .u32 i636)] : List Value) ∧
    (Wf Try.prog K 61 [(.agg l633.toArray), (.agg #[(.int .i64 i634), (.int .u64 i635), (.int .u32 i636)]), (.int .i64 ia2)] h632 fun r637 h638 =>
    (∃ (p639 : Option Addr) (n640 c641 : Nat), r637 = (.slice p639 n640 c641) ∧
    (∃ i642 : Int, ∃ i643 : Int, ∃ i644 : Int, ldN h638 h551.next 0 3 = some ([(.int .i64 i642), (.int .u64 i643), (.int .u32 i644)] : List Value) ∧
    ((List.length ([(.int .i64 i642), (.int .u64 i643), (.int .u32 i644)] : List Value) = 3) ∧ ∃ h645 : AH, stN h638 h0.next 0 ([(.int .i64 i642), (.int .u64 i643), (.int .u32 i644)] : List Value) = some h645 ∧
    ((ldN h632 h551.next 0 3 = some ([(.int .i64 i642), (.int .u64 i643), (.int .u32 i644)] : List Value)) ∧
    ((ldN h638 h551.next 0 3 = some ([(.int .i64 i642), (.int .u64 i643), (.int .u32 i644)] : List Value)) ∧
    (∃ i646 : Int, ∃ i647 : Int, ∃ i648 : Int, ldN h645 h0.next 0 3 = some ([(.int .i64 i646), (.int .u64 i647), (.int .u32 i648)] : List Value) ∧
    (Q (.tuple #[(.agg #[(.int .i64 i646), (.int .u64 i647), (.int .u32 i648)]), (.slice p639 n640 c641), (.int .i64 0)]) h645)))))))))) ∧
    (¬ (i631 : Int) = 0 → ∃ i649 : Int, ∃ i650 : Int, ∃ i651 : Int, ldN h632 h.next 0 3 = some ([(.int .i64 i649), (.int .u64 i650), (.int .u32 i651)] : List Value) ∧
    ((List.length ([(.int .i64 i649), (.int .u64 i650), (.int .u32 i651)] : List Value) = 3) ∧ ∃ h652 : AH, stN h632 h0.next 0 ([(.int .i64 i649), (.int .u64 i650), (.int .u32 i651)] : List Value) = some h652 ∧
    (∃ i653 : Int, ∃ i654 : Int, ∃ i655 : Int, ldN h652 h0.next 0 3 = some ([(.int .i64 i653), (.int .u64 i654), (.int .u32 i655)] : List Value) ∧
    (Q (.tuple #[(.agg #[(.int .i64 i653), (.int .u64 i654), (.int .u32 i655)]), (.slice none 0 0), (.int .i64 i631)]) h652))))))))) ∧
    (¬ (0 : Int) < 2 → ∃ l656 : List Value, ldN h624 h8.next 0 51 = some l656 ∧
    (∃ i657 : Int, ∃ i658 : Int, ∃ i659 : Int, ldN h624 h.next 0 3 = some ([(.int .i64 i657), (.int .u64 i658), (.int .u32 i659)] : List Value) ∧
    (Wf Try.prog K 61 [(.agg l656.toArray), (.agg #[(.int .i64 i657), (.int .u64 i658), (.int .u32 i659)]), (.int .i64 ia2)] h624 fun r660 h661 =>
    (∃ (p662 : Option Addr) (n663 c664 : Nat), r660 = (.slice p662 n663 c664) ∧
    (∃ i665 : Int, ∃ i666 : Int, ∃ i667 : Int, ldN h661 h551.next 0 3 = some ([(.int .i64 i665), (.int .u64 i666), (.int .u32 i667)] : List Value) ∧
    ((List.length ([(.int .i64 i665), (.int .u64 i666), (.int .u32 i667)] : List Value) = 3) ∧ ∃ h668 : AH, stN h661 h0.next 0 ([(.int .i64 i665), (.int .u64 i666), (.int .u32 i667)] : List Value) = some h668 ∧
    ((ldN h624 h551.next 0 3 = some ([(.int .i64 i665), (.int .u64 i666), (.int .u32 i667)] : List Value)) ∧
    ((ldN h661 h551.next 0 3 = some ([(.int .i64 i665), (.int .u64 i666), (.int .u32 i667)] : List Value)) ∧
    (∃ i669 : Int, ∃ i670 : Int, ∃ i671 : Int, ldN h668 h0.next 0 3 = some ([(.int .i64 i669), (.int .u64 i670), (.int .u32 i671)] : List Value) ∧
    (Q (.tuple #[(.agg #[(.int .i64 i669), (.int .u64 i670), (.int .u32 i671)]), (.slice p662 n663 c664), (.int .i64 0)]) h668))))))))))))))))))))))))))))))))))))))))))) ∧
    (¬ (i10 : Int) = 0 → ∃ i672 : Int, ∃ i673 : Int, ∃ i674 : Int, ldN h12 h.next 0 3 = some ([(.int .i64 i672), (.int .u64 i673), (.int .u32 i674)] : List Value) ∧
    ((List.length ([(.int .i64 i672), (.int .u64 i673), (.int .u32 i674)] : List Value) = 3) ∧ ∃ h675 : AH, stN h12 h0.next 0 ([(.int .i64 i672), (.int .u64 i673), (.int .u32 i674)] : List Value) = some h675 ∧
    (∃ i676 : Int, ∃ i677 : Int, ∃ i678 : Int, ldN h675 h0.next 0 3 = some ([(.int .i64 i676), (.int .u64 i677), (.int .u32 i678)] : List Value) ∧
    (Q (.tuple #[(.agg #[(.int .i64 i676), (.int .u64 i677), (.int .u32 i678)]), (.slice none 0 0), (.int .i64 i10)]) h675)))))))))) ∨ (r2 = (.bool false) ∧
    (∃ i679 : Int, ∃ i680 : Int, ∃ i681 : Int, ldN h3 h.next 0 3 = some ([(.int .i64 i679), (.int .u64 i680), (.int .u32 i681)] : List Value) ∧
    ((List.length ([(.int .i64 i679), (.int .u64 i680), (.int .u32 i681)] : List Value) = 3) ∧ ∃ h682 : AH, stN h3 h0.next 0 ([(.int .i64 i679), (.int .u64 i680), (.int .u32 i681)] : List Value) = some h682 ∧
    (∃ i683 : Int, ∃ i684 : Int, ∃ i685 : Int, ldN h682 h0.next 0 3 = some ([(.int .i64 i683), (.int .u64 i684), (.int .u32 i685)] : List Value) ∧
    (Q (.tuple #[(.agg #[(.int .i64 i683), (.int .u64 i684), (.int .u32 i685)]), (.slice none 0 0), (.int .i64 111)]) h682)))))))) :
    Wf Try.prog K 31 [(.pointer pa0), (.agg #[(.int .i64 ia1_0), (.int .u64 ia1_1), (.int .u32 ia1_2)]), (.int .i64 ia2)] h Q :=
  vcF_sound (hs := []) hk (Eq.mpr (by kernel_rfl) H)
theorem vc_tree_Blocks {K : Xs} (hk : K 35 = none) (pa0 : Option Addr) (ia1_0 : Int) (ia1_1 : Int) (ia1_2 : Int) (h : AH) (Q : Value → AH → Prop) (H :
    ∀ h0 : AH, h0 = h.alloc (.cells ([(.int .i64 ia1_0), (.int .u64 ia1_1), (.int .u32 ia1_2)] : List Value) 28 false) →
    ∃ i1 : Int, ∃ i2 : Int, ∃ i3 : Int, ldN h0 h.next 0 3 = some ([(.int .i64 i1), (.int .u64 i2), (.int .u32 i3)] : List Value) ∧
    (Wf Try.prog K 64 [(.pointer pa0), (.agg #[(.int .i64 i1), (.int .u64 i2), (.int .u32 i3)])] h0 fun r4 h5 =>
    (∃ l6 : List Value, ∃ i7 : Int, r4 = (.tuple #[(.agg l6.toArray), (.int .i64 i7)]) ∧
    (∀ h8 : AH, h8 = h5.alloc (.cells ([(.int .i64 0), (.int .u64 0), (.int .u32 0), (.int .i64 0), (.int .u64 0), (.int .u32 0), (.int .i64 0), (.int .u64 0), (.int .u32 0), (.int .i64 0), (.int .u64 0), (.int .u32 0), (.int .i64 0), (.int .u64 0), (.int .u32 0), (.int .i64 0), (.int .u64 0), (.int .u32 0), (.int .i64 0), (.int .u64 0), (.int .u32 0), (.int .i64 0), (.int .u64 0), (.int .u32 0)] : List Value) 104 false) →
    (List.length l6 = 24) ∧ ∃ h9 : AH, stN h8 h5.next 0 l6 = some h9 ∧
    (((i7 : Int) = 0 → ∃ l10 : List Value, ldN h9 h5.next 0 24 = some l10 ∧
    (∃ I11 : Option Addr → Nat → Nat → Int → Nat → AH → Prop, (∃ n, I11 none 0 0 0 n h9) ∧
    ∀ (k12 : Nat) (h13 : AH) (p15 : Option Addr) (n16 : Nat) (c17 : Nat) (i18 : Int), I11 p15 n16 c17 i18 k12 h13 →
    ((i18 : Int) < 8 → ((0 : Int) ≤ i18) ∧ ((i18 : Int) < 8) ∧ (∃ i19 : Int, ∃ i20 : Int, ∃ i21 : Int, (List.take 3 (List.drop (Int.toNat i18 * 3) l10)) = ([(.int .i64 i19), (.int .u64 i20), (.int .u32 i21)] : List Value) ∧
    (∀ h22 : AH, h22 = h13.alloc (.cells ([(.int .i64 0), (.int .u64 0), (.int .u32 0)] : List Value) 28 false) →
    (List.length ([(.int .i64 i19), (.int .u64 i20), (.int .u32 i21)] : List Value) = 3) ∧ ∃ h23 : AH, stN h22 h13.next 0 ([(.int .i64 i19), (.int .u64 i20), (.int .u32 i21)] : List Value) = some h23 ∧
    (∃ i24 : Int, ∃ i25 : Int, ∃ i26 : Int, ldN h23 h13.next 0 3 = some ([(.int .i64 i24), (.int .u64 i25), (.int .u32 i26)] : List Value) ∧
    (∃ la27 lb28, keyA Try.prog 28 (.agg #[(.int .i64 i24), (.int .u64 i25), (.int .u32 i26)]) = some la27 ∧ keyA Try.prog 28 (.agg #[(.int .i64 0), (.int .u64 0), (.int .u32 0)]) = some lb28 ∧
    (litsEq la27 lb28 = true → ∀ i29 : Int, i29 = IntKind.wrap .i64 (i18 + 1) → ∃ j14, j14 < k12 ∧ I11 p15 n16 c17 i29 j14 h23) ∧
    (litsEq la27 lb28 = false → ∃ i30 : Int, ∃ i31 : Int, ∃ i32 : Int, ldN h23 h13.next 0 3 = some ([(.int .i64 i30), (.int .u64 i31), (.int .u32 i32)] : List Value) ∧
    (Wf Try.prog K 64 [(.pointer pa0), (.agg #[(.int .i64 i30), (.int .u64 i31), (.int .u32 i32)])] h23 fun r33 h34 =>
    (∃ l35 : List Value, ∃ i36 : Int, r33 = (.tuple #[(.agg l35.toArray), (.int .i64 i36)]) ∧
    (∀ h37 : AH, h37 = h34.alloc (.cells ([(.int .i64 0), (.int .u64 0), (.int .u32 0), (.int .i64 0), (.int .u64 0), (.int .u32 0), (.int .i64 0), (.int .u64 0), (.int .u32 0), (.int .i64 0), (.int .u64 0), (.int .u32 0), (.int .i64 0), (.int .u64 0), (.int .u32 0), (.int .i64 0), (.int .u64 0), (.int .u32 0), (.int .i64 0), (.int .u64 0), (.int .u32 0), (.int .i64 0), (.int .u64 0), (.int .u32 0)] : List Value) 104 false) →
    (List.length l35 = 24) ∧ ∃ h38 : AH, stN h37 h34.next 0 l35 = some h38 ∧
    (((i36 : Int) = 0 → ∃ l39 : List Value, ldN h38 h34.next 0 24 = some l39 ∧
    (∃ I40 : Option Addr → Nat → Nat → Int → Nat → AH → Prop, (∃ n, I40 p15 n16 c17 0 n h38) ∧
    ∀ (k41 : Nat) (h42 : AH) (p44 : Option Addr) (n45 : Nat) (c46 : Nat) (i47 : Int), I40 p44 n45 c46 i47 k41 h42 →
    ((i47 : Int) < 8 → ((0 : Int) ≤ i47) ∧ ((i47 : Int) < 8) ∧ (∃ i48 : Int, ∃ i49 : Int, ∃ i50 : Int, (List.take 3 (List.drop (Int.toNat i47 * 3) l39)) = ([(.int .i64 i48), (.int .u64 i49), (.int .u32 i50)] : List Value) ∧
    (∀ h51 : AH, h51 = h42.alloc (.cells ([(.int .i64 0), (.int .u64 0), (.int .u32 0)] : List Value) 28 false) →
    (List.length ([(.int .i64 i48), (.int .u64 i49), (.int .u32 i50)] : List Value) = 3) ∧ ∃ h52 : AH, stN h51 h42.next 0 ([(.int .i64 i48), (.int .u64 i49), (.int .u32 i50)] : List Value) = some h52 ∧
    (∃ i53 : Int, ∃ i54 : Int, ∃ i55 : Int, ldN h52 h42.next 0 3 = some ([(.int .i64 i53), (.int .u64 i54), (.int .u32 i55)] : List Value) ∧
    (∃ la56 lb57, keyA Try.prog 28 (.agg #[(.int .i64 i53), (.int .u64 i54), (.int .u32 i55)]) = some la56 ∧ keyA Try.prog 28 (.agg #[(.int .i64 0), (.int .u64 0), (.int .u32 0)]) = some lb57 ∧
    (litsEq la56 lb57 = true → ∀ i58 : Int, i58 = IntKind.wrap .i64 (i47 + 1) → ∃ j43, j43 < k41 ∧ I40 p44 n45 c46 i58 j43 h52) ∧
    (litsEq la56 lb57 = false → ∀ i59 : Int, i59 = IntKind.wrap .i64 (i18 * 8) → ∀ i60 : Int, i60 = IntKind.wrap .i64 (i59 + i47) → ∀ h61 : AH, h61 = h52.alloc (.cells ([(.int .i64 i60)] : List Value) 3 false) →
    ∃ (p62 : Option Addr) (n63 c64 : Nat) (h65 : AH), aBuiltin Try.prog h61 .append #[70, 70] [(.slice p44 n45 c46), (.slice (some ⟨h52.next, 0, none⟩) 1 1)] = some (.slice p62 n63 c64, h65) ∧
    (∀ i66 : Int, i66 = IntKind.wrap .i64 (i47 + 1) → ∃ j43, j43 < k41 ∧ I40 p62 n63 c64 i66 j43 h65))))))) ∧
    (¬ (i47 : Int) < 8 → ∀ i67 : Int, i67 = IntKind.wrap .i64 (i18 + 1) → ∃ j14, j14 < k12 ∧ I11 p44 n45 c46 i67 j14 h42))) ∧
    (¬ (i36 : Int) = 0 → Q (.tuple #[(.slice none 0 0), (.int .i64 i36)]) h38))))))))))) ∧
    (¬ (i18 : Int) < 8 → Q (.tuple #[(.slice p15 n16 c17), (.int .i64 0)]) h13))) ∧
    (¬ (i7 : Int) = 0 → Q (.tuple #[(.slice none 0 0), (.int .i64 i7)]) h9)))))) :
    Wf Try.prog K 35 [(.pointer pa0), (.agg #[(.int .i64 ia1_0), (.int .u64 ia1_1), (.int .u32 ia1_2)])] h Q :=
  vcF_sound (hs := [(6, [(8, .slice none 0 0), (25, .int .i64 0)]), (13, [(8, .slice none 0 0), (42, .int .i64 0)])]) hk (Eq.mpr (by kernel_rfl) H)
theorem vc_aquiferref11_Same {K : Xs} (hk : K 51 = none) (pa0 : Option Addr) (na0 ca0 : Nat) (pa1 : Option Addr) (na1 ca1 : Nat) (h : AH) (Q : Value → AH → Prop) (H :
    ((((na0 : Nat) : Int) : Int) = ((na1 : Nat) : Int) → ∃ I0 : Int → Nat → AH → Prop, (∃ n, I0 0 n h) ∧
    ∀ (k1 : Nat) (h2 : AH) (i4 : Int), I0 i4 k1 h2 →
    ((i4 : Int) < ((na0 : Nat) : Int) → derefP pa0 fun b5 o6 => (((0 : Int) ≤ i4) ∧ ((i4 : Int) < ((na0 : Nat) : Int)) ∧
    (∃ i7 : Int, ∃ i8 : Int, ∃ i9 : Int, ldN h2 b5 (o6 + Int.toNat i4 * 3) 3 = some ([(.int .i64 i7), (.int .u64 i8), (.int .u32 i9)] : List Value) ∧
    (derefP pa1 fun b10 o11 => (((0 : Int) ≤ i4) ∧ ((i4 : Int) < ((na1 : Nat) : Int)) ∧
    (∃ i12 : Int, ∃ i13 : Int, ∃ i14 : Int, ldN h2 b10 (o11 + Int.toNat i4 * 3) 3 = some ([(.int .i64 i12), (.int .u64 i13), (.int .u32 i14)] : List Value) ∧
    (∃ la15 lb16, keyA Try.prog 28 (.agg #[(.int .i64 i7), (.int .u64 i8), (.int .u32 i9)]) = some la15 ∧ keyA Try.prog 28 (.agg #[(.int .i64 i12), (.int .u64 i13), (.int .u32 i14)]) = some lb16 ∧
    (litsEq la15 lb16 = true → ∀ i17 : Int, i17 = IntKind.wrap .i64 (i4 + 1) → ∃ j3, j3 < k1 ∧ I0 i17 j3 h2) ∧
    (litsEq la15 lb16 = false → Q (.bool false) h2)))))))) ∧
    (¬ (i4 : Int) < ((na0 : Nat) : Int) → Q (.bool true) h2)) ∧
    (¬ (((na0 : Nat) : Int) : Int) = ((na1 : Nat) : Int) → Q (.bool false) h)) :
    Wf Try.prog K 51 [(.slice pa0 na0 ca0), (.slice pa1 na1 ca1)] h Q :=
  vcF_sound (hs := [(4, [(13, .int .i64 0)])]) hk (Eq.mpr (by kernel_rfl) H)
theorem vc_aquiferref01_SameInts {K : Xs} (hk : K 36 = none) (pa0 : Option Addr) (na0 ca0 : Nat) (pa1 : Option Addr) (na1 ca1 : Nat) (h : AH) (Q : Value → AH → Prop) (H :
    ((((na0 : Nat) : Int) : Int) = ((na1 : Nat) : Int) → ∃ I0 : Int → Nat → AH → Prop, (∃ n, I0 0 n h) ∧
    ∀ (k1 : Nat) (h2 : AH) (i4 : Int), I0 i4 k1 h2 →
    ((i4 : Int) < ((na0 : Nat) : Int) → derefP pa0 fun b5 o6 => (((0 : Int) ≤ i4) ∧ ((i4 : Int) < ((na0 : Nat) : Int)) ∧
    (∃ i7 : Int, ld1 h2 b5 (o6 + Int.toNat i4 * 1) = some (.int .i64 i7) ∧
    (derefP pa1 fun b8 o9 => (((0 : Int) ≤ i4) ∧ ((i4 : Int) < ((na1 : Nat) : Int)) ∧
    (∃ i10 : Int, ld1 h2 b8 (o9 + Int.toNat i4 * 1) = some (.int .i64 i10) ∧
    (((i7 : Int) = i10 → ∀ i11 : Int, i11 = IntKind.wrap .i64 (i4 + 1) → ∃ j3, j3 < k1 ∧ I0 i11 j3 h2) ∧
    (¬ (i7 : Int) = i10 → Q (.bool false) h2)))))))) ∧
    (¬ (i4 : Int) < ((na0 : Nat) : Int) → Q (.bool true) h2)) ∧
    (¬ (((na0 : Nat) : Int) : Int) = ((na1 : Nat) : Int) → Q (.bool false) h)) :
    Wf Try.prog K 36 [(.slice pa0 na0 ca0), (.slice pa1 na1 ca1)] h Q :=
  vcF_sound (hs := [(4, [(13, .int .i64 0)])]) hk (Eq.mpr (by kernel_rfl) H)
end Go.Am
