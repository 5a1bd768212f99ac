/-
  WEAKEST CONDITIONS of some functions of this program, printed by a program.
-/
import Derived.Test.YteblpmcekhcgiadAmG
import Derived.Test.YteblpmcekhcgiadRows
set_option linter.unusedVariables false
set_option maxRecDepth 100000
namespace Go.Am
open Go.Proofs
theorem vc_aquiferlaw12_made {K : Xs} (hk : K 8 = none) (ia0 : Int) (h : AH) (Q : Value → AH → Prop) (H :
    Wf Try.prog K 19 [(.int .i64 ia0)] h fun r0 h1 =>
    (∃ p2 : Option Addr, r0 = (.pointer p2) ∧
    (Wf Try.prog K 20 [(.int .i64 ia0)] h1 fun r3 h4 =>
    (∃ p5 : Option Addr, r3 = (.pointer p5) ∧
    (Wf Try.prog K 18 [(.pointer p2), (.pointer p5), (.int .u64 1), (.int .u64 0)] h4 fun r6 h7 =>
    (∃ p8 : Option Addr, r6 = (.pointer p8) ∧
    (Q (.pointer p8) h7))))))) :
    Wf Try.prog K 8 [(.int .i64 ia0)] h Q :=
  vcF_sound (hs := []) hk (Eq.mpr (by kernel_rfl) H)
theorem vc_pile_New {K : Xs} (hk : K 18 = none) (pa0 : Option Addr) (pa1 : Option Addr) (ia2 : Int) (ia3 : Int) (h : AH) (Q : Value → AH → Prop) (H :
    ∀ h0 : AH, h0 = h.alloc (.cells ([(.pointer pa0), (.pointer pa1), (.int .u64 ia2), (.int .u64 ia3)] : List Value) 59 false) →
    Q (.pointer (some ⟨h.next, 0, none⟩)) h0) :
    Wf Try.prog K 18 [(.pointer pa0), (.pointer pa1), (.int .u64 ia2), (.int .u64 ia3)] h Q :=
  vcF_sound (hs := []) hk (Eq.mpr (by kernel_rfl) H)
theorem vc_vdev_New {K : Xs} (hk : K 19 = none) (ia0 : Int) (h : AH) (Q : Value → AH → Prop) (H :
    ∀ i0 : Int, i0 = (if 0 > (ia0 : Int) then 0 else (ia0 : Int)) → ∀ i1 : Int, i1 = (if 1024 < (i0 : Int) then 1024 else (i0 : Int)) → ((0 : Int) ≤ i1 ∧ (i1 : Int) ≤ i1 ∧ (i1 : Int) ≤ 9223372036854775807 ∧ (128 : Int) * i1 ≤ 281474976710656) ∧ ∀ h2 : AH, h2 = h.alloc (.cells ((List.replicate (Int.toNat i1) (List.replicate 128 (.int .u8 0) : List Value)).flatten) 46 false) →
    ((0 : Int) ≤ i1 ∧ (i1 : Int) ≤ i1 ∧ (i1 : Int) ≤ 9223372036854775807 ∧ (128 : Int) * i1 ≤ 281474976710656) ∧ ∀ h3 : AH, h3 = h2.alloc (.cells ((List.replicate (Int.toNat i1) (List.replicate 128 (.int .u8 0) : List Value)).flatten) 46 false) →
    ∀ h4 : AH, h4 = h3.alloc (.cells ([(.slice (some ⟨h.next, 0, none⟩) (Int.toNat i1) (Int.toNat i1)), (.slice (some ⟨h2.next, 0, none⟩) (Int.toNat i1) (Int.toNat i1)), (.slice none 0 0), (.int .i64 0), (.int .i64 (-1)), (.bool false)] : List Value) 72 false) →
    Q (.pointer (some ⟨h3.next, 0, none⟩)) h4) :
    Wf Try.prog K 19 [(.int .i64 ia0)] h Q :=
  vcF_sound (hs := []) hk (Eq.mpr (by kernel_rfl) H)
theorem vc_slab_New {K : Xs} (hk : K 20 = none) (ia0 : Int) (h : AH) (Q : Value → AH → Prop) (H :
    ∃ l0 : List Value, aBuild Try.prog 81 #[] = some (.agg l0.toArray) ∧
    (∀ h1 : AH, h1 = h.alloc (.cells l0 81 false) →
    ∃ I2 : Int → Nat → AH → Prop, (∃ n, I2 4 n h1) ∧
    ∀ (k3 : Nat) (h4 : AH) (i6 : Int), I2 i6 k3 h4 →
    ∀ i7 : Int, i7 = (if 1024 < (ia0 : Int) then 1024 else (ia0 : Int)) → ((i6 : Int) < i7 → Wf Try.prog K 31 [(.pointer (some ⟨h.next, 0, none⟩)), (.int .i64 i6), (.int .u8 1)] h4 fun r8 h9 =>
    (∀ i10 : Int, i10 = IntKind.wrap .i64 (i6 + 1) → ∃ j5, j5 < k3 ∧ I2 i10 j5 h9)) ∧
    (¬ (i6 : Int) < i7 → Q (.pointer (some ⟨h.next, 0, none⟩)) h4))) :
    Wf Try.prog K 20 [(.int .i64 ia0)] h Q :=
  vcF_sound (hs := [(3, [(4, .int .i64 0)])]) hk (Eq.mpr (by kernel_rfl) H)
theorem vc_pile_Pile_PutAt {K : Xs} (hk : K 34 = none) (pa0 : Option Addr) (ia1 : Int) (pa2 : Option Addr) (na2 ca2 : Nat) (h : AH) (Q : Value → AH → Prop) (H :
    ∀ h0 : AH, h0 = h.alloc (.cells ([(.int .i64 0), (.int .u64 0), (.int .u32 0)] : List Value) 36 false) →
    ((128 : Int) < ((na2 : Nat) : Int) → (List.length ([(.int .i64 0), (.int .u64 0), (.int .u32 0)] : List Value) = 3) ∧ ∃ h1 : AH, stN h0 h.next 0 ([(.int .i64 0), (.int .u64 0), (.int .u32 0)] : List Value) = some h1 ∧
    (∃ i2 : Int, ∃ i3 : Int, ∃ i4 : Int, ldN h1 h.next 0 3 = some ([(.int .i64 i2), (.int .u64 i3), (.int .u32 i4)] : List Value) ∧
    (Q (.tuple #[(.agg #[(.int .i64 i2), (.int .u64 i3), (.int .u32 i4)]), (.int .i64 92)]) h1))) ∧
    (¬ (128 : Int) < ((na2 : Nat) : Int) → derefP pa0 fun b5 o6 => (∃ p7 : Option Addr, ld1 h0 b5 (o6 + 1) = some (.pointer p7) ∧
    (Wf Try.prog K 41 [(.pointer p7)] h0 fun r8 h9 =>
    (∃ (p10 : Option Addr) (n11 c12 : Nat), r8 = (.slice p10 n11 c12) ∧
    (Wf Try.prog K 40 [(.slice p10 n11 c12), (.int .i64 ia1)] h9 fun r13 h14 =>
    (((r13 = (.bool true) ∧
    (Wf Try.prog K 42 [(.pointer pa0), (.int .i64 ia1), (.slice pa2 na2 ca2)] h14 fun r15 h16 =>
    (∃ i17 : Int, ∃ i18 : Int, ∃ i19 : Int, ∃ i20 : Int, r15 = (.tuple #[(.agg #[(.int .i64 i17), (.int .u64 i18), (.int .u32 i19)]), (.int .i64 i20)]) ∧
    ((List.length ([(.int .i64 i17), (.int .u64 i18), (.int .u32 i19)] : List Value) = 3) ∧ ∃ h21 : AH, stN h16 h.next 0 ([(.int .i64 i17), (.int .u64 i18), (.int .u32 i19)] : List Value) = some h21 ∧
    (∃ i22 : Int, ∃ i23 : Int, ∃ i24 : Int, ldN h21 h.next 0 3 = some ([(.int .i64 i22), (.int .u64 i23), (.int .u32 i24)] : List Value) ∧
    (Q (.tuple #[(.agg #[(.int .i64 i22), (.int .u64 i23), (.int .u32 i24)]), (.int .i64 i20)]) h21)))))) ∨ (r13 = (.bool false) ∧
    ((List.length ([(.int .i64 0), (.int .u64 0), (.int .u32 0)] : List Value) = 3) ∧ ∃ h25 : AH, stN h14 h.next 0 ([(.int .i64 0), (.int .u64 0), (.int .u32 0)] : List Value) = some h25 ∧
    (∃ i26 : Int, ∃ i27 : Int, ∃ i28 : Int, ldN h25 h.next 0 3 = some ([(.int .i64 i26), (.int .u64 i27), (.int .u32 i28)] : List Value) ∧
    (Q (.tuple #[(.agg #[(.int .i64 i26), (.int .u64 i27), (.int .u32 i28)]), (.int .i64 72)]) h25)))))))))))) :
    Wf Try.prog K 34 [(.pointer pa0), (.int .i64 ia1), (.slice pa2 na2 ca2)] h Q :=
  vcF_sound (hs := []) hk (Eq.mpr (by kernel_rfl) H)
theorem vc_pile_Pile_write {K : Xs} (hk : K 42 = none) (pa0 : Option Addr) (ia1 : Int) (pa2 : Option Addr) (na2 ca2 : Nat) (h : AH) (Q : Value → AH → Prop) (H :
    ∀ h0 : AH, h0 = h.alloc (.cells ([(.int .i64 0), (.int .u64 0), (.int .u32 0)] : List Value) 36 false) →
    ∀ h1 : AH, h1 = h0.alloc (.cells (List.replicate 128 (.int .u8 0) : List Value) 46 false) →
    ∃ (p2 : Option Addr) (n3 c4 : Nat), aSlice Try.prog h1 46 (.pointer (some ⟨h0.next, 0, none⟩)) none none none = some (.slice p2 n3 c4) ∧
    (∃ (i5 : Int) (h6 : AH), aBuiltin Try.prog h1 .copy #[22, 22] [(.slice p2 n3 c4), (.slice pa2 na2 ca2)] = some (.int .i64 i5, h6) ∧
    (derefP pa0 fun b7 o8 => (∃ p9 : Option Addr, ld1 h6 b7 o8 = some (.pointer p9) ∧
    (∃ l10 : List Value, ldN h6 h0.next 0 128 = some l10 ∧
    (Wf Try.prog K 48 [(.pointer p9), (.int .i64 ia1), (.agg l10.toArray)] h6 fun r11 h12 =>
    (∃ i13 : Int, r11 = (.int .i64 i13) ∧
    (((i13 : Int) = 0 → ∃ (p14 : Option Addr) (n15 c16 : Nat), aSlice Try.prog h12 46 (.pointer (some ⟨h0.next, 0, none⟩)) none none none = some (.slice p14 n15 c16) ∧
    (Wf Try.prog K 29 [(.slice p14 n15 c16)] h12 fun r17 h18 =>
    (∃ i19 : Int, r17 = (.int .u32 i19) ∧
    (derefP pa0 fun b20 o21 => (∃ i22 : Int, ld1 h18 b20 (o21 + 2) = some (.int .u64 i22) ∧
    ((List.length ([(.int .i64 ia1), (.int .u64 i22), (.int .u32 i19)] : List Value) = 3) ∧ ∃ h23 : AH, stN h18 h.next 0 ([(.int .i64 ia1), (.int .u64 i22), (.int .u32 i19)] : List Value) = some h23 ∧
    ((ld1 h12 b20 (o21 + 2) = some (.int .u64 i22)) ∧
    ((ld1 h18 b20 (o21 + 2) = some (.int .u64 i22)) ∧
    (∃ i24 : Int, ∃ i25 : Int, ∃ i26 : Int, ldN h23 h.next 0 3 = some ([(.int .i64 i24), (.int .u64 i25), (.int .u32 i26)] : List Value) ∧
    (Q (.tuple #[(.agg #[(.int .i64 i24), (.int .u64 i25), (.int .u32 i26)]), (.int .i64 0)]) h23)))))))))) ∧
    (¬ (i13 : Int) = 0 → (List.length ([(.int .i64 0), (.int .u64 0), (.int .u32 0)] : List Value) = 3) ∧ ∃ h27 : AH, stN h12 h.next 0 ([(.int .i64 0), (.int .u64 0), (.int .u32 0)] : List Value) = some h27 ∧
    (∃ i28 : Int, ∃ i29 : Int, ∃ i30 : Int, ldN h27 h.next 0 3 = some ([(.int .i64 i28), (.int .u64 i29), (.int .u32 i30)] : List Value) ∧
    (Q (.tuple #[(.agg #[(.int .i64 i28), (.int .u64 i29), (.int .u32 i30)]), (.int .i64 i13)]) h27))))))))))) :
    Wf Try.prog K 42 [(.pointer pa0), (.int .i64 ia1), (.slice pa2 na2 ca2)] h Q :=
  vcF_sound (hs := []) hk (Eq.mpr (by kernel_rfl) H)
theorem vc_pile_Pile_Get {K : Xs} (hk : K 16 = none) (pa0 : Option Addr) (ia1_0 : Int) (ia1_1 : Int) (ia1_2 : Int) (h : AH) (Q : Value → AH → Prop) (H :
    ∀ h0 : AH, h0 = h.alloc (.cells ([(.int .i64 ia1_0), (.int .u64 ia1_1), (.int .u32 ia1_2)] : List Value) 36 false) →
    ∀ h1 : AH, h1 = h0.alloc (.cells (List.replicate 128 (.int .u8 0) : List Value) 46 false) →
    ∃ i2 : Int, ∃ i3 : Int, ∃ i4 : Int, ldN h1 h.next 0 3 = some ([(.int .i64 i2), (.int .u64 i3), (.int .u32 i4)] : List Value) ∧
    (∃ la5 lb6, keyA Try.prog 36 (.agg #[(.int .i64 i2), (.int .u64 i3), (.int .u32 i4)]) = some la5 ∧ keyA Try.prog 36 (.agg #[(.int .i64 0), (.int .u64 0), (.int .u32 0)]) = some lb6 ∧
    (litsEq la5 lb6 = true → ∃ l7 : List Value, aBuild Try.prog 46 #[] = some (.agg l7.toArray) ∧
    ((List.length l7 = 128) ∧ ∃ h8 : AH, stN h1 h0.next 0 l7 = some h8 ∧
    (∃ l9 : List Value, ldN h8 h0.next 0 128 = some l9 ∧
    (Q (.tuple #[(.agg l9.toArray), (.int .i64 0)]) h8)))) ∧
    (litsEq la5 lb6 = false → derefP pa0 fun b10 o11 => (∃ p12 : Option Addr, ld1 h1 b10 o11 = some (.pointer p12) ∧
    (∃ i13 : Int, ld1 h1 h.next 0 = some (.int .i64 i13) ∧
    (Wf Try.prog K 14 [(.pointer p12), (.int .i64 i13)] h1 fun r14 h15 =>
    (∃ l16 : List Value, ∃ i17 : Int, r14 = (.tuple #[(.agg l16.toArray), (.int .i64 i17)]) ∧
    (∀ h18 : AH, h18 = h15.alloc (.cells (List.replicate 128 (.int .u8 0) : List Value) 46 false) →
    (List.length l16 = 128) ∧ ∃ h19 : AH, stN h18 h15.next 0 l16 = some h19 ∧
    (((i17 : Int) = 41 → ∃ l20 : List Value, aBuild Try.prog 46 #[] = some (.agg l20.toArray) ∧
    ((List.length l20 = 128) ∧ ∃ h21 : AH, stN h19 h0.next 0 l20 = some h21 ∧
    (∃ l22 : List Value, ldN h21 h0.next 0 128 = some l22 ∧
    (Q (.tuple #[(.agg l22.toArray), (.int .i64 91)]) h21)))) ∧
    (¬ (i17 : Int) = 41 → ((i17 : Int) = 0 → ∃ (p23 : Option Addr) (n24 c25 : Nat), aSlice Try.prog h19 46 (.pointer (some ⟨h15.next, 0, none⟩)) none none none = some (.slice p23 n24 c25) ∧
    (Wf Try.prog K 29 [(.slice p23 n24 c25)] h19 fun r26 h27 =>
    (∃ i28 : Int, r26 = (.int .u32 i28) ∧
    (∃ i29 : Int, ld1 h27 h.next 2 = some (.int .u32 i29) ∧
    (((i28 : Int) = i29 → (ld1 h19 h.next 2 = some (.int .u32 i29)) ∧
    ((ld1 h27 h.next 2 = some (.int .u32 i29)) ∧
    (∃ l30 : List Value, ldN h27 h15.next 0 128 = some l30 ∧
    ((List.length l30 = 128) ∧ ∃ h31 : AH, stN h27 h0.next 0 l30 = some h31 ∧
    (∃ l32 : List Value, ldN h31 h0.next 0 128 = some l32 ∧
    (Q (.tuple #[(.agg l32.toArray), (.int .i64 0)]) h31)))))) ∧
    (¬ (i28 : Int) = i29 → (ld1 h19 h.next 2 = some (.int .u32 i29)) ∧
    ((ld1 h27 h.next 2 = some (.int .u32 i29)) ∧
    (∃ l33 : List Value, aBuild Try.prog 46 #[] = some (.agg l33.toArray) ∧
    ((List.length l33 = 128) ∧ ∃ h34 : AH, stN h27 h0.next 0 l33 = some h34 ∧
    (∃ l35 : List Value, ldN h34 h0.next 0 128 = some l35 ∧
    (Q (.tuple #[(.agg l35.toArray), (.int .i64 91)]) h34))))))))))) ∧
    (¬ (i17 : Int) = 0 → ∃ l36 : List Value, aBuild Try.prog 46 #[] = some (.agg l36.toArray) ∧
    ((List.length l36 = 128) ∧ ∃ h37 : AH, stN h19 h0.next 0 l36 = some h37 ∧
    (∃ l38 : List Value, ldN h37 h0.next 0 128 = some l38 ∧
    (Q (.tuple #[(.agg l38.toArray), (.int .i64 i17)]) h37)))))))))))))) :
    Wf Try.prog K 16 [(.pointer pa0), (.agg #[(.int .i64 ia1_0), (.int .u64 ia1_1), (.int .u32 ia1_2)])] h Q :=
  vcF_sound (hs := []) hk (Eq.mpr (by kernel_rfl) H)
theorem vc_pile_Pile_Map {K : Xs} (hk : K 9 = none) (pa0 : Option Addr) (h : AH) (Q : Value → AH → Prop) (H :
    derefP pa0 fun b0 o1 => (∃ p2 : Option Addr, ld1 h b0 (o1 + 1) = some (.pointer p2) ∧
    (Q (.pointer p2) h))) :
    Wf Try.prog K 9 [(.pointer pa0)] h Q :=
  vcF_sound (hs := []) hk (Eq.mpr (by kernel_rfl) H)
theorem vc_pile_Pile_Dev {K : Xs} (hk : K 13 = none) (pa0 : Option Addr) (h : AH) (Q : Value → AH → Prop) (H :
    derefP pa0 fun b0 o1 => (∃ p2 : Option Addr, ld1 h b0 o1 = some (.pointer p2) ∧
    (Q (.pointer p2) h))) :
    Wf Try.prog K 13 [(.pointer pa0)] h Q :=
  vcF_sound (hs := []) hk (Eq.mpr (by kernel_rfl) H)
theorem vc_slab_Map_Alloc {K : Xs} (hk : K 22 = none) (pa0 : Option Addr) (h : AH) (Q : Value → AH → Prop) (H :
    derefP pa0 fun b0 o1 => (∃ l2 : List Value, ldN h b0 (o1 + 1024) 16 = some l2 ∧
    (∃ I3 : Int → Int → Nat → AH → Prop, (∃ n, I3 0 0 n h) ∧
    ∀ (k4 : Nat) (h5 : AH) (i7 : Int) (i8 : Int), I3 i7 i8 k4 h5 →
    ((i8 : Int) < 16 → ((0 : Int) ≤ i8) ∧ ((i8 : Int) < 16) ∧ (∃ i9 : Int, (l2 : List Value)[(Int.toNat i8 * 1)]? = some (.int .i64 i9) ∧
    (derefP pa0 fun b10 o11 => (((0 : Int) ≤ i7) ∧ ((i7 : Int) < 16) ∧
    (∃ i12 : Int, ld1 h5 b10 ((o11 + 1024) + Int.toNat i7 * 1) = some (.int .i64 i12) ∧
    (((i12 : Int) < i9 → ∀ i13 : Int, i13 = IntKind.wrap .i64 (i8 + 1) → ∃ j6, j6 < k4 ∧ I3 i8 i13 j6 h5) ∧
    (¬ (i12 : Int) < i9 → ∀ i14 : Int, i14 = IntKind.wrap .i64 (i8 + 1) → ∃ j6, j6 < k4 ∧ I3 i7 i14 j6 h5))))))) ∧
    (¬ (i8 : Int) < 16 → ∀ i15 : Int, i15 = IntKind.wrap .i64 (i7 * 64) → ∃ I16 : Int → Nat → AH → Prop, (∃ n, I16 i15 n h5) ∧
    ∀ (k17 : Nat) (h18 : AH) (i20 : Int), I16 i20 k17 h18 →
    ∀ i21 : Int, i21 = IntKind.wrap .i64 (i7 + 1) → ∀ i22 : Int, i22 = IntKind.wrap .i64 (i21 * 64) → ((i20 : Int) < i22 → Wf Try.prog K 32 [(.pointer pa0), (.int .i64 i20), (.int .u8 1)] h18 fun r23 h24 =>
    (((r23 = (.bool true) ∧
    (Wf Try.prog K 31 [(.pointer pa0), (.int .i64 i20), (.int .u8 2)] h24 fun r25 h26 =>
    (Q (.tuple #[(.int .i64 i20), (.int .i64 0)]) h26))) ∨ (r23 = (.bool false) ∧
    (∀ i27 : Int, i27 = IntKind.wrap .i64 (i20 + 1) → ∃ j19, j19 < k17 ∧ I16 i27 j19 h24))))) ∧
    (¬ (i20 : Int) < i22 → Q (.tuple #[(.int .i64 0), (.int .i64 71)]) h18))))) :
    Wf Try.prog K 22 [(.pointer pa0)] h Q :=
  vcF_sound (hs := [(3, [(4, .int .i64 0), (12, .int .i64 0)]), (9, [(7, .int .i64 0)])]) hk (Eq.mpr (by kernel_rfl) H)
theorem vc_slab_Map_set {K : Xs} (hk : K 31 = none) (pa0 : Option Addr) (ia1 : Int) (ia2 : Int) (h : AH) (Q : Value → AH → Prop) (H :
    derefP pa0 fun b0 o1 => (((0 : Int) ≤ ia1) ∧ ((ia1 : Int) < 1024) ∧
    (∃ i2 : Int, ld1 h b0 (o1 + Int.toNat ia1 * 1) = some (.int .u8 i2) ∧
    (((i2 : Int) = 1 → (64 ≠ (0 : Int)) ∧ (∀ i3 : Int, i3 = IntKind.wrap .i64 (Int.tdiv ia1 64) → derefP pa0 fun b4 o5 => (((0 : Int) ≤ i3) ∧ ((i3 : Int) < 16) ∧
    (∃ i6 : Int, ld1 h b4 ((o5 + 1024) + Int.toNat i3 * 1) = some (.int .i64 i6) ∧
    (∀ i7 : Int, i7 = IntKind.wrap .i64 (i6 - 1) → derefP pa0 fun b8 o9 => (((0 : Int) ≤ i3) ∧ ((i3 : Int) < 16) ∧
    (∃ h10 : AH, st1 h b8 ((o9 + 1024) + Int.toNat i3 * 1) (.int .i64 i7) = some h10 ∧
    (derefP pa0 fun b11 o12 => (((0 : Int) ≤ ia1) ∧ ((ia1 : Int) < 1024) ∧
    (∃ h13 : AH, st1 h10 b11 (o12 + Int.toNat ia1 * 1) (.int .u8 ia2) = some h13 ∧
    (((ia2 : Int) = 1 → (64 ≠ (0 : Int)) ∧ (∀ i14 : Int, i14 = IntKind.wrap .i64 (Int.tdiv ia1 64) → derefP pa0 fun b15 o16 => (((0 : Int) ≤ i14) ∧ ((i14 : Int) < 16) ∧
    (∃ i17 : Int, ld1 h13 b15 ((o16 + 1024) + Int.toNat i14 * 1) = some (.int .i64 i17) ∧
    (∀ i18 : Int, i18 = IntKind.wrap .i64 (i17 + 1) → derefP pa0 fun b19 o20 => (((0 : Int) ≤ i14) ∧ ((i14 : Int) < 16) ∧
    (∃ h21 : AH, st1 h13 b19 ((o20 + 1024) + Int.toNat i14 * 1) (.int .i64 i18) = some h21 ∧
    (Q (.tuple #[]) h21)))))))) ∧
    (¬ (ia2 : Int) = 1 → Q (.tuple #[]) h13)))))))))))) ∧
    (¬ (i2 : Int) = 1 → derefP pa0 fun b22 o23 => (((0 : Int) ≤ ia1) ∧ ((ia1 : Int) < 1024) ∧
    (∃ h24 : AH, st1 h b22 (o23 + Int.toNat ia1 * 1) (.int .u8 ia2) = some h24 ∧
    (((ia2 : Int) = 1 → (64 ≠ (0 : Int)) ∧ (∀ i25 : Int, i25 = IntKind.wrap .i64 (Int.tdiv ia1 64) → derefP pa0 fun b26 o27 => (((0 : Int) ≤ i25) ∧ ((i25 : Int) < 16) ∧
    (∃ i28 : Int, ld1 h24 b26 ((o27 + 1024) + Int.toNat i25 * 1) = some (.int .i64 i28) ∧
    (∀ i29 : Int, i29 = IntKind.wrap .i64 (i28 + 1) → derefP pa0 fun b30 o31 => (((0 : Int) ≤ i25) ∧ ((i25 : Int) < 16) ∧
    (∃ h32 : AH, st1 h24 b30 ((o31 + 1024) + Int.toNat i25 * 1) (.int .i64 i29) = some h32 ∧
    (Q (.tuple #[]) h32)))))))) ∧
    (¬ (ia2 : Int) = 1 → Q (.tuple #[]) h24))))))))) :
    Wf Try.prog K 31 [(.pointer pa0), (.int .i64 ia1), (.int .u8 ia2)] h Q :=
  vcF_sound (hs := []) hk (Eq.mpr (by kernel_rfl) H)
theorem vc_slab_Map_is {K : Xs} (hk : K 32 = none) (pa0 : Option Addr) (ia1 : Int) (ia2 : Int) (h : AH) (Q : Value → AH → Prop) (H :
    ((0 : Int) ≤ ia1 → ((ia1 : Int) < 1024 → derefP pa0 fun b0 o1 => (((0 : Int) ≤ ia1) ∧ ((ia1 : Int) < 1024) ∧
    (∃ i2 : Int, ld1 h b0 (o1 + Int.toNat ia1 * 1) = some (.int .u8 i2) ∧
    (((i2 : Int) = ia2 → Q (.bool true) h) ∧
    (¬ (i2 : Int) = ia2 → Q (.bool false) h))))) ∧
    (¬ (ia1 : Int) < 1024 → Q (.bool false) h)) ∧
    (¬ (0 : Int) ≤ ia1 → Q (.bool false) h)) :
    Wf Try.prog K 32 [(.pointer pa0), (.int .i64 ia1), (.int .u8 ia2)] h Q :=
  vcF_sound (hs := []) hk (Eq.mpr (by kernel_rfl) H)
theorem vc_slab_Map_Count {K : Xs} (hk : K 21 = none) (pa0 : Option Addr) (h : AH) (Q : Value → AH → Prop) (H :
    derefP pa0 fun b0 o1 => (∃ l2 : List Value, ldN h b0 (o1 + 1024) 16 = some l2 ∧
    (∃ I3 : Int → Int → Nat → AH → Prop, (∃ n, I3 0 0 n h) ∧
    ∀ (k4 : Nat) (h5 : AH) (i7 : Int) (i8 : Int), I3 i7 i8 k4 h5 →
    ((i8 : Int) < 16 → ((0 : Int) ≤ i8) ∧ ((i8 : Int) < 16) ∧ (∃ i9 : Int, (l2 : List Value)[(Int.toNat i8 * 1)]? = some (.int .i64 i9) ∧
    (∀ i10 : Int, i10 = IntKind.wrap .i64 (i7 + i9) → ∀ i11 : Int, i11 = IntKind.wrap .i64 (i8 + 1) → ∃ j6, j6 < k4 ∧ I3 i10 i11 j6 h5))) ∧
    (¬ (i8 : Int) < 16 → Q (.int .i64 i7) h5)))) :
    Wf Try.prog K 21 [(.pointer pa0)] h Q :=
  vcF_sound (hs := [(3, [(3, .int .i64 0), (10, .int .i64 0)])]) hk (Eq.mpr (by kernel_rfl) H)
theorem vc_slab_Map_Taken {K : Xs} (hk : K 41 = none) (pa0 : Option Addr) (h : AH) (Q : Value → AH → Prop) (H :
    Wf Try.prog K 47 [(.pointer pa0), (.int .u8 2)] h fun r0 h1 =>
    (∃ (p2 : Option Addr) (n3 c4 : Nat), r0 = (.slice p2 n3 c4) ∧
    (Q (.slice p2 n3 c4) h1))) :
    Wf Try.prog K 41 [(.pointer pa0)] h Q :=
  vcF_sound (hs := []) hk (Eq.mpr (by kernel_rfl) H)
theorem vc_slab_Map_all {K : Xs} (hk : K 47 = none) (pa0 : Option Addr) (ia1 : Int) (h : AH) (Q : Value → AH → Prop) (H :
    ∃ I0 : Option Addr → Nat → Nat → Int → Nat → AH → Prop, (∃ n, I0 none 0 0 0 n h) ∧
    ∀ (k1 : Nat) (h2 : AH) (p4 : Option Addr) (n5 : Nat) (c6 : Nat) (i7 : Int), I0 p4 n5 c6 i7 k1 h2 →
    ((i7 : Int) < 1024 → Wf Try.prog K 32 [(.pointer pa0), (.int .i64 i7), (.int .u8 ia1)] h2 fun r8 h9 =>
    (((r8 = (.bool true) ∧
    (∀ h10 : AH, h10 = h9.alloc (.cells ([(.int .i64 i7)] : List Value) 3 false) →
    ∃ (p11 : Option Addr) (n12 c13 : Nat) (h14 : AH), aBuiltin Try.prog h10 .append #[27, 27] [(.slice p4 n5 c6), (.slice (some ⟨h9.next, 0, none⟩) 1 1)] = some (.slice p11 n12 c13, h14) ∧
    (∀ i15 : Int, i15 = IntKind.wrap .i64 (i7 + 1) → ∃ j3, j3 < k1 ∧ I0 p11 n12 c13 i15 j3 h14))) ∨ (r8 = (.bool false) ∧
    (∀ i16 : Int, i16 = IntKind.wrap .i64 (i7 + 1) → ∃ j3, j3 < k1 ∧ I0 p4 n5 c6 i16 j3 h9))))) ∧
    (¬ (i7 : Int) < 1024 → Wf Try.prog K 55 [(.slice p4 n5 c6)] h2 fun r17 h18 =>
    (∃ (p19 : Option Addr) (n20 c21 : Nat), r17 = (.slice p19 n20 c21) ∧
    (Q (.slice p19 n20 c21) h18)))) :
    Wf Try.prog K 47 [(.pointer pa0), (.int .u8 ia1)] h Q :=
  vcF_sound (hs := [(3, [(5, .slice none 0 0), (7, .int .i64 0)])]) hk (Eq.mpr (by kernel_rfl) H)
theorem vc_slab_Map_Many {K : Xs} (hk : K 10 = none) (pa0 : Option Addr) (ia1 : Int) (h : AH) (Q : Value → AH → Prop) (H :
    Wf Try.prog K 21 [(.pointer pa0)] h fun r0 h1 =>
    (∃ i2 : Int, r0 = (.int .i64 i2) ∧
    (((i2 : Int) < ia1 → Q (.tuple #[(.slice none 0 0), (.int .i64 71)]) h1) ∧
    (¬ (i2 : Int) < ia1 → ∃ I3 : Option Addr → Nat → Nat → Nat → AH → Prop, (∃ n, I3 none 0 0 n h1) ∧
    ∀ (k4 : Nat) (h5 : AH) (p7 : Option Addr) (n8 : Nat) (c9 : Nat), I3 p7 n8 c9 k4 h5 →
    ((((n8 : Nat) : Int) : Int) < ia1 → Wf Try.prog K 22 [(.pointer pa0)] h5 fun r10 h11 =>
    (∃ i12 : Int, ∃ i13 : Int, r10 = (.tuple #[(.int .i64 i12), (.int .i64 i13)]) ∧
    (((i13 : Int) = 0 → ∀ h14 : AH, h14 = h11.alloc (.cells ([(.int .i64 i12)] : List Value) 3 false) →
    ∃ (p15 : Option Addr) (n16 c17 : Nat) (h18 : AH), aBuiltin Try.prog h14 .append #[27, 27] [(.slice p7 n8 c9), (.slice (some ⟨h11.next, 0, none⟩) 1 1)] = some (.slice p15 n16 c17, h18) ∧
    (∃ j6, j6 < k4 ∧ I3 p15 n16 c17 j6 h18)) ∧
    (¬ (i13 : Int) = 0 → Q (.tuple #[(.slice none 0 0), (.int .i64 i13)]) h11)))) ∧
    (¬ (((n8 : Nat) : Int) : Int) < ia1 → Q (.tuple #[(.slice p7 n8 c9), (.int .i64 0)]) h5))))) :
    Wf Try.prog K 10 [(.pointer pa0), (.int .i64 ia1)] h Q :=
  vcF_sound (hs := [(4, [(6, .slice none 0 0)])]) hk (Eq.mpr (by kernel_rfl) H)
theorem vc_vdev_Dev_Write {K : Xs} (hk : K 48 = none) (pa0 : Option Addr) (ia1 : Int) (la2 : List Value) (h : AH) (Q : Value → AH → Prop) (H :
    ∀ h0 : AH, h0 = h.alloc (.cells la2 46 false) →
    Wf Try.prog K 27 [(.pointer pa0)] h0 fun r1 h2 =>
    (Wf Try.prog K 28 [(.pointer pa0), (.int .i64 ia1)] h2 fun r3 h4 =>
    (((r3 = (.bool true) ∧
    (Wf Try.prog K 56 [(.pointer pa0)] h4 fun r5 h6 =>
    (((r5 = (.bool true) ∧
    (derefP pa0 fun b7 o8 => (∃ (p9 : Option Addr) (n10 c11 : Nat), ld1 h6 b7 (o8 + 2) = some (.slice p9 n10 c11) ∧
    (∃ l12 : List Value, ldN h6 h.next 0 128 = some l12 ∧
    (∃ l13 : List Value, aBuild Try.prog 74 #[(0, (.int .i64 ia1)), (1, (.agg l12.toArray))] = some (.agg l13.toArray) ∧
    (∃ (p14 : Option Addr) (n15 c16 : Nat) (h17 : AH), aBuildSlice Try.prog h6 70 1 #[(0, (.agg l13.toArray))] = some (.slice p14 n15 c16, h17) ∧
    (∃ (p18 : Option Addr) (n19 c20 : Nat) (h21 : AH), aBuiltin Try.prog h17 .append #[70, 70] [(.slice p9 n10 c11), (.slice p14 n15 c16)] = some (.slice p18 n19 c20, h21) ∧
    (derefP pa0 fun b22 o23 => (∃ h24 : AH, st1 h21 b22 (o23 + 2) (.slice p18 n19 c20) = some h24 ∧
    (derefP pa0 fun b25 o26 => (∃ (p27 : Option Addr) (n28 c29 : Nat), ld1 h24 b25 (o26 + 1) = some (.slice p27 n28 c29) ∧
    (∃ l30 : List Value, ldN h24 h.next 0 128 = some l30 ∧
    (derefP p27 fun b31 o32 => (((0 : Int) ≤ ia1) ∧ ((ia1 : Int) < ((n28 : Nat) : Int)) ∧
    ((List.length l30 = 128) ∧ ∃ h33 : AH, stN h24 b31 (o32 + Int.toNat ia1 * 128) l30 = some h33 ∧
    (Q (.int .i64 0) h33)))))))))))))))) ∨ (r5 = (.bool false) ∧
    (Q (.int .i64 42) h6)))))) ∨ (r3 = (.bool false) ∧
    (Q (.int .i64 41) h4)))))) :
    Wf Try.prog K 48 [(.pointer pa0), (.int .i64 ia1), (.agg la2.toArray)] h Q :=
  vcF_sound (hs := []) hk (Eq.mpr (by kernel_rfl) H)
theorem vc_vdev_Dev_Read {K : Xs} (hk : K 14 = none) (pa0 : Option Addr) (ia1 : Int) (h : AH) (Q : Value → AH → Prop) (H :
    ∀ h0 : AH, h0 = h.alloc (.cells (List.replicate 128 (.int .u8 0) : List Value) 46 false) →
    Wf Try.prog K 27 [(.pointer pa0)] h0 fun r1 h2 =>
    (Wf Try.prog K 28 [(.pointer pa0), (.int .i64 ia1)] h2 fun r3 h4 =>
    (((r3 = (.bool true) ∧
    (derefP pa0 fun b5 o6 => (((ld1 h4 b5 (o6 + 5) = some (.bool true) ∧
    (∃ l7 : List Value, aBuild Try.prog 46 #[] = some (.agg l7.toArray) ∧
    ((List.length l7 = 128) ∧ ∃ h8 : AH, stN h4 h.next 0 l7 = some h8 ∧
    (∃ l9 : List Value, ldN h8 h.next 0 128 = some l9 ∧
    (Q (.tuple #[(.agg l9.toArray), (.int .i64 42)]) h8))))) ∨ (ld1 h4 b5 (o6 + 5) = some (.bool false) ∧
    (derefP pa0 fun b10 o11 => (∃ (p12 : Option Addr) (n13 c14 : Nat), ld1 h4 b10 (o11 + 1) = some (.slice p12 n13 c14) ∧
    (derefP p12 fun b15 o16 => (((0 : Int) ≤ ia1) ∧ ((ia1 : Int) < ((n13 : Nat) : Int)) ∧
    (∃ l17 : List Value, ldN h4 b15 (o16 + Int.toNat ia1 * 128) 128 = some l17 ∧
    ((List.length l17 = 128) ∧ ∃ h18 : AH, stN h4 h.next 0 l17 = some h18 ∧
    (∃ l19 : List Value, ldN h18 h.next 0 128 = some l19 ∧
    (Q (.tuple #[(.agg l19.toArray), (.int .i64 0)]) h18))))))))))))) ∨ (r3 = (.bool false) ∧
    (∃ l20 : List Value, aBuild Try.prog 46 #[] = some (.agg l20.toArray) ∧
    ((List.length l20 = 128) ∧ ∃ h21 : AH, stN h4 h.next 0 l20 = some h21 ∧
    (∃ l22 : List Value, ldN h21 h.next 0 128 = some l22 ∧
    (Q (.tuple #[(.agg l22.toArray), (.int .i64 41)]) h21))))))))) :
    Wf Try.prog K 14 [(.pointer pa0), (.int .i64 ia1)] h Q :=
  vcF_sound (hs := []) hk (Eq.mpr (by kernel_rfl) H)
theorem vc_vdev_Dev_Rot {K : Xs} (hk : K 15 = none) (pa0 : Option Addr) (ia1 : Int) (la2 : List Value) (h : AH) (Q : Value → AH → Prop) (H :
    ∀ h0 : AH, h0 = h.alloc (.cells la2 46 false) →
    Wf Try.prog K 28 [(.pointer pa0), (.int .i64 ia1)] h0 fun r1 h2 =>
    (((r1 = (.bool true) ∧
    (derefP pa0 fun b3 o4 => (∃ (p5 : Option Addr) (n6 c7 : Nat), ld1 h2 b3 o4 = some (.slice p5 n6 c7) ∧
    (∃ l8 : List Value, ldN h2 h.next 0 128 = some l8 ∧
    (derefP p5 fun b9 o10 => (((0 : Int) ≤ ia1) ∧ ((ia1 : Int) < ((n6 : Nat) : Int)) ∧
    ((List.length l8 = 128) ∧ ∃ h11 : AH, stN h2 b9 (o10 + Int.toNat ia1 * 128) l8 = some h11 ∧
    (derefP pa0 fun b12 o13 => (∃ (p14 : Option Addr) (n15 c16 : Nat), ld1 h11 b12 (o13 + 1) = some (.slice p14 n15 c16) ∧
    (∃ l17 : List Value, ldN h11 h.next 0 128 = some l17 ∧
    (derefP p14 fun b18 o19 => (((0 : Int) ≤ ia1) ∧ ((ia1 : Int) < ((n15 : Nat) : Int)) ∧
    ((List.length l17 = 128) ∧ ∃ h20 : AH, stN h11 b18 (o19 + Int.toNat ia1 * 128) l17 = some h20 ∧
    (derefP pa0 fun b21 o22 => (∃ (p23 : Option Addr) (n24 c25 : Nat), ld1 h20 b21 (o22 + 2) = some (.slice p23 n24 c25) ∧
    (∃ I26 : Int → Nat → AH → Prop, (∃ n, I26 0 n h20) ∧
    ∀ (k27 : Nat) (h28 : AH) (i30 : Int), I26 i30 k27 h28 →
    ((i30 : Int) < ((n24 : Nat) : Int) → derefP pa0 fun b31 o32 => (∃ (p33 : Option Addr) (n34 c35 : Nat), ld1 h28 b31 (o32 + 2) = some (.slice p33 n34 c35) ∧
    (derefP p33 fun b36 o37 => (((0 : Int) ≤ i30) ∧ ((i30 : Int) < ((n34 : Nat) : Int)) ∧
    (∃ i38 : Int, ld1 h28 b36 (o37 + Int.toNat i30 * 129) = some (.int .i64 i38) ∧
    (((i38 : Int) = ia1 → derefP pa0 fun b39 o40 => (∃ (p41 : Option Addr) (n42 c43 : Nat), ld1 h28 b39 (o40 + 2) = some (.slice p41 n42 c43) ∧
    (∃ l44 : List Value, ldN h28 h.next 0 128 = some l44 ∧
    (derefP p41 fun b45 o46 => (((0 : Int) ≤ i30) ∧ ((i30 : Int) < ((n42 : Nat) : Int)) ∧
    ((List.length l44 = 128) ∧ ∃ h47 : AH, stN h28 b45 ((o46 + Int.toNat i30 * 129) + 1) l44 = some h47 ∧
    (∀ i48 : Int, i48 = IntKind.wrap .i64 (i30 + 1) → ∃ j29, j29 < k27 ∧ I26 i48 j29 h47))))))) ∧
    (¬ (i38 : Int) = ia1 → ∀ i49 : Int, i49 = IntKind.wrap .i64 (i30 + 1) → ∃ j29, j29 < k27 ∧ I26 i49 j29 h28))))))) ∧
    (¬ (i30 : Int) < ((n24 : Nat) : Int) → Q (.int .i64 0) h28))))))))))))))))) ∨ (r1 = (.bool false) ∧
    (Q (.int .i64 41) h2))))) :
    Wf Try.prog K 15 [(.pointer pa0), (.int .i64 ia1), (.agg la2.toArray)] h Q :=
  vcF_sound (hs := [(6, [(31, .int .i64 0)])]) hk (Eq.mpr (by kernel_rfl) H)
theorem vc_vdev_Dev_has {K : Xs} (hk : K 28 = none) (pa0 : Option Addr) (ia1 : Int) (h : AH) (Q : Value → AH → Prop) (H :
    ((0 : Int) ≤ ia1 → derefP pa0 fun b0 o1 => (∃ (p2 : Option Addr) (n3 c4 : Nat), ld1 h b0 o1 = some (.slice p2 n3 c4) ∧
    (((ia1 : Int) < ((n3 : Nat) : Int) → Q (.bool true) h) ∧
    (¬ (ia1 : Int) < ((n3 : Nat) : Int) → Q (.bool false) h)))) ∧
    (¬ (0 : Int) ≤ ia1 → Q (.bool false) h)) :
    Wf Try.prog K 28 [(.pointer pa0), (.int .i64 ia1)] h Q :=
  vcF_sound (hs := []) hk (Eq.mpr (by kernel_rfl) H)
theorem vc_vdev_Dev_count {K : Xs} (hk : K 27 = none) (pa0 : Option Addr) (h : AH) (Q : Value → AH → Prop) (H :
    derefP pa0 fun b0 o1 => (∃ i2 : Int, ld1 h b0 (o1 + 3) = some (.int .i64 i2) ∧
    (((i2 : Int) < 4611686018427387903 → derefP pa0 fun b3 o4 => (∃ i5 : Int, ld1 h b3 (o4 + 3) = some (.int .i64 i5) ∧
    (∀ i6 : Int, i6 = IntKind.wrap .i64 (i5 + 1) → derefP pa0 fun b7 o8 => (∃ h9 : AH, st1 h b7 (o8 + 3) (.int .i64 i6) = some h9 ∧
    (Q (.tuple #[]) h9))))) ∧
    (¬ (i2 : Int) < 4611686018427387903 → Q (.tuple #[]) h)))) :
    Wf Try.prog K 27 [(.pointer pa0)] h Q :=
  vcF_sound (hs := []) hk (Eq.mpr (by kernel_rfl) H)
theorem vc_vdev_Dev_spend {K : Xs} (hk : K 56 = none) (pa0 : Option Addr) (h : AH) (Q : Value → AH → Prop) (H :
    derefP pa0 fun b0 o1 => (∃ i2 : Int, ld1 h b0 (o1 + 4) = some (.int .i64 i2) ∧
    (((i2 : Int) = 0 → derefP pa0 fun b3 o4 => (∃ h5 : AH, st1 h b3 (o4 + 5) (.bool true) = some h5 ∧
    (derefP pa0 fun b6 o7 => (((ld1 h5 b6 (o7 + 5) = some (.bool true) ∧
    (Q (.bool false) h5)) ∨ (ld1 h5 b6 (o7 + 5) = some (.bool false) ∧
    (derefP pa0 fun b8 o9 => (∃ i10 : Int, ld1 h5 b8 (o9 + 4) = some (.int .i64 i10) ∧
    (((0 : Int) < i10 → derefP pa0 fun b11 o12 => (∃ i13 : Int, ld1 h5 b11 (o12 + 4) = some (.int .i64 i13) ∧
    (∀ i14 : Int, i14 = IntKind.wrap .i64 (i13 - 1) → derefP pa0 fun b15 o16 => (∃ h17 : AH, st1 h5 b15 (o16 + 4) (.int .i64 i14) = some h17 ∧
    (Q (.bool true) h17))))) ∧
    (¬ (0 : Int) < i10 → Q (.bool true) h5)))))))))) ∧
    (¬ (i2 : Int) = 0 → derefP pa0 fun b18 o19 => (((ld1 h b18 (o19 + 5) = some (.bool true) ∧
    (Q (.bool false) h)) ∨ (ld1 h b18 (o19 + 5) = some (.bool false) ∧
    (derefP pa0 fun b20 o21 => (∃ i22 : Int, ld1 h b20 (o21 + 4) = some (.int .i64 i22) ∧
    (((0 : Int) < i22 → derefP pa0 fun b23 o24 => (∃ i25 : Int, ld1 h b23 (o24 + 4) = some (.int .i64 i25) ∧
    (∀ i26 : Int, i26 = IntKind.wrap .i64 (i25 - 1) → derefP pa0 fun b27 o28 => (∃ h29 : AH, st1 h b27 (o28 + 4) (.int .i64 i26) = some h29 ∧
    (Q (.bool true) h29))))) ∧
    (¬ (0 : Int) < i22 → Q (.bool true) h))))))))))) :
    Wf Try.prog K 56 [(.pointer pa0)] h Q :=
  vcF_sound (hs := []) hk (Eq.mpr (by kernel_rfl) H)
theorem vc_sum_Of {K : Xs} (hk : K 29 = none) (pa0 : Option Addr) (na0 ca0 : Nat) (h : AH) (Q : Value → AH → Prop) (H :
    Wf Try.prog K 38 [(.int .u32 0), (.slice pa0 na0 ca0)] h fun r0 h1 =>
    (∃ i2 : Int, r0 = (.int .u32 i2) ∧
    (Q (.int .u32 i2) h1))) :
    Wf Try.prog K 29 [(.slice pa0 na0 ca0)] h Q :=
  vcF_sound (hs := []) hk (Eq.mpr (by kernel_rfl) H)
theorem vc_sum_More {K : Xs} (hk : K 38 = none) (ia0 : Int) (pa1 : Option Addr) (na1 ca1 : Nat) (h : AH) (Q : Value → AH → Prop) (H :
    ∃ i0 : Int, aUn .xor (.int .u32 ia0) = some (.int .u32 i0) ∧
    (∃ I1 : Int → Int → Nat → AH → Prop, (∃ n, I1 i0 0 n h) ∧
    ∀ (k2 : Nat) (h3 : AH) (i5 : Int) (i6 : Int), I1 i5 i6 k2 h3 →
    ((i6 : Int) < ((na1 : Nat) : Int) → derefP pa1 fun b7 o8 => (((0 : Int) ≤ i6) ∧ ((i6 : Int) < ((na1 : Nat) : Int)) ∧
    (∃ i9 : Int, ld1 h3 b7 (o8 + Int.toNat i6 * 1) = some (.int .u8 i9) ∧
    (∀ i10 : Int, i10 = IntKind.wrap .u32 i9 → ∃ i11 : Int, aInt .xor .u32 i5 i10 = some (.int .u32 i11) ∧
    (∃ I12 : Int → Int → Nat → AH → Prop, (∃ n, I12 i11 0 n h3) ∧
    ∀ (k13 : Nat) (h14 : AH) (i16 : Int) (i17 : Int), I12 i16 i17 k13 h14 →
    ((i17 : Int) < 8 → ∃ i18 : Int, aInt .and .u32 i16 1 = some (.int .u32 i18) ∧
    (∃ i19 : Int, aShift .shr .u32 i16 1 = some (.int .u32 i19) ∧
    (((i18 : Int) = 1 → ∃ i20 : Int, aInt .xor .u32 i19 2197175160 = some (.int .u32 i20) ∧
    (∀ i21 : Int, i21 = IntKind.wrap .i64 (i17 + 1) → ∃ j15, j15 < k13 ∧ I12 i20 i21 j15 h14)) ∧
    (¬ (i18 : Int) = 1 → ∀ i22 : Int, i22 = IntKind.wrap .i64 (i17 + 1) → ∃ j15, j15 < k13 ∧ I12 i19 i22 j15 h14)))) ∧
    (¬ (i17 : Int) < 8 → ∀ i23 : Int, i23 = IntKind.wrap .i64 (i6 + 1) → ∃ j4, j4 < k2 ∧ I1 i16 i23 j4 h14)))))) ∧
    (¬ (i6 : Int) < ((na1 : Nat) : Int) → ∃ i24 : Int, aUn .xor (.int .u32 i5) = some (.int .u32 i24) ∧
    (Q (.int .u32 i24) h3)))) :
    Wf Try.prog K 38 [(.int .u32 ia0), (.slice pa1 na1 ca1)] h Q :=
  vcF_sound (hs := [(3, [(0, .int .u32 0), (12, .int .i64 0)]), (7, [(0, .int .u32 0), (20, .int .i64 0)])]) hk (Eq.mpr (by kernel_rfl) H)
end Go.Am
