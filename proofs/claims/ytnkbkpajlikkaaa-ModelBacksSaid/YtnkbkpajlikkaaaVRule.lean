/-
  WEAKEST CONDITIONS of some functions of this program, printed by a program.
-/
import Derived.Test.YtnkbkpajlikkaaaAmG
import Derived.Test.YtnkbkpajlikkaaaRows
set_option linter.unusedVariables false
set_option maxRecDepth 100000
namespace Go.Am
open Go.Proofs
theorem vc_rule_copied {K : Xs} (hk : K 35 = none) (ia0_0 : Int) (pa0_1 : Option Addr) (na0_1 ca0_1 : Nat) (h : AH) (Q : Value → AH → Prop) (H :
    ∀ h0 : AH, h0 = h.alloc (.cells ([(.int .u64 ia0_0), (.slice pa0_1 na0_1 ca0_1)] : List Value) 49 false) →
    ∀ h1 : AH, h1 = h0.alloc (.cells ([(.int .u64 0), (.slice none 0 0)] : List Value) 49 false) →
    ∃ (p2 : Option Addr) (n3 c4 : Nat), ld1 h1 h.next 1 = some (.slice p2 n3 c4) ∧
    (((0 : Int) ≤ ((n3 : Nat) : Int) ∧ (((n3 : Nat) : Int) : Int) ≤ ((n3 : Nat) : Int) ∧ (((n3 : Nat) : Int) : Int) ≤ 9223372036854775807 ∧ (112 : Int) * ((n3 : Nat) : Int) ≤ 281474976710656) ∧ ∀ h5 : AH, h5 = h1.alloc (.cells ((List.replicate (Int.toNat ((n3 : Nat) : Int)) ([(.int .u64 0), (.string (ByteArray.mk #[])), (.bool false), (.int .u64 0), (.int .u64 0), (.int .u64 0), (.int .i64 0), (.int .i64 0), (.int .u64 0), (.int .u32 0), (.slice none 0 0)] : List Value)).flatten) 59 false) →
    ∃ (p6 : Option Addr) (n7 c8 : Nat), ld1 h5 h.next 1 = some (.slice p6 n7 c8) ∧
    (∃ I9 : Int → Nat → AH → Prop, (∃ n, I9 0 n h5) ∧
    ∀ (k10 : Nat) (h11 : AH) (i13 : Int), I9 i13 k10 h11 →
    ((i13 : Int) < ((n7 : Nat) : Int) → ∃ (p14 : Option Addr) (n15 c16 : Nat), ld1 h11 h.next 1 = some (.slice p14 n15 c16) ∧
    (derefP p14 fun b17 o18 => (((0 : Int) ≤ i13) ∧ ((i13 : Int) < ((n15 : Nat) : Int)) ∧
    (∃ i19 : Int, ∃ s20 : ByteArray, ∃ b21 : Bool, ∃ i22 : Int, ∃ i23 : Int, ∃ i24 : Int, ∃ i25 : Int, ∃ i26 : Int, ∃ i27 : Int, ∃ i28 : Int, ∃ (p29 : Option Addr) (n30 c31 : Nat), ldN h11 b17 (o18 + Int.toNat i13 * 11) 11 = some ([(.int .u64 i19), (.string s20), (.bool b21), (.int .u64 i22), (.int .u64 i23), (.int .u64 i24), (.int .i64 i25), (.int .i64 i26), (.int .u64 i27), (.int .u32 i28), (.slice p29 n30 c31)] : List Value) ∧
    (Wf Try.prog K 44 [(.agg #[(.int .u64 i19), (.string s20), (.bool b21), (.int .u64 i22), (.int .u64 i23), (.int .u64 i24), (.int .i64 i25), (.int .i64 i26), (.int .u64 i27), (.int .u32 i28), (.slice p29 n30 c31)])] h11 fun r32 h33 =>
    (∃ i34 : Int, ∃ s35 : ByteArray, ∃ b36 : Bool, ∃ i37 : Int, ∃ i38 : Int, ∃ i39 : Int, ∃ i40 : Int, ∃ i41 : Int, ∃ i42 : Int, ∃ i43 : Int, ∃ (p44 : Option Addr) (n45 c46 : Nat), r32 = (.agg #[(.int .u64 i34), (.string s35), (.bool b36), (.int .u64 i37), (.int .u64 i38), (.int .u64 i39), (.int .i64 i40), (.int .i64 i41), (.int .u64 i42), (.int .u32 i43), (.slice p44 n45 c46)]) ∧
    (((0 : Int) ≤ i13) ∧ ((i13 : Int) < (((Int.toNat ((n3 : Nat) : Int)) : Nat) : Int)) ∧
    ((List.length ([(.int .u64 i34), (.string s35), (.bool b36), (.int .u64 i37), (.int .u64 i38), (.int .u64 i39), (.int .i64 i40), (.int .i64 i41), (.int .u64 i42), (.int .u32 i43), (.slice p44 n45 c46)] : List Value) = 11) ∧ ∃ h47 : AH, stN h33 h1.next (0 + Int.toNat i13 * 11) ([(.int .u64 i34), (.string s35), (.bool b36), (.int .u64 i37), (.int .u64 i38), (.int .u64 i39), (.int .i64 i40), (.int .i64 i41), (.int .u64 i42), (.int .u32 i43), (.slice p44 n45 c46)] : List Value) = some h47 ∧
    (∀ i48 : Int, i48 = IntKind.wrap .i64 (i13 + 1) → ∃ j12, j12 < k10 ∧ I9 i48 j12 h47))))))))) ∧
    (¬ (i13 : Int) < ((n7 : Nat) : Int) → ∃ i49 : Int, ld1 h11 h.next 0 = some (.int .u64 i49) ∧
    ((List.length ([(.int .u64 i49), (.slice (some ⟨h1.next, 0, none⟩) (Int.toNat ((n3 : Nat) : Int)) (Int.toNat ((n3 : Nat) : Int)))] : List Value) = 2) ∧ ∃ h50 : AH, stN h11 h0.next 0 ([(.int .u64 i49), (.slice (some ⟨h1.next, 0, none⟩) (Int.toNat ((n3 : Nat) : Int)) (Int.toNat ((n3 : Nat) : Int)))] : List Value) = some h50 ∧
    (∃ i51 : Int, ∃ (p52 : Option Addr) (n53 c54 : Nat), ldN h50 h0.next 0 2 = some ([(.int .u64 i51), (.slice p52 n53 c54)] : List Value) ∧
    (Q (.agg #[(.int .u64 i51), (.slice p52 n53 c54)]) h50))))))) :
    Wf Try.prog K 35 [(.agg #[(.int .u64 ia0_0), (.slice pa0_1 na0_1 ca0_1)])] h Q :=
  vcF_sound (hs := [(3, [(12, .int .i64 0)])]) hk (Eq.mpr (by kernel_rfl) H)
theorem vc_rule_place {K : Xs} (hk : K 48 = none) (pa0 : Option Addr) (na0 ca0 : Nat) (ia1 : Int) (h : AH) (Q : Value → AH → Prop) (H :
    ∀ h0 : AH, h0 = h.alloc (.cells ([(.int .u64 ia1)] : List Value) 46 false) →
    Wf Try.prog K 58 [(.slice pa0 na0 ca0), (.func (.func 59) #[] #[(.pointer (some ⟨h.next, 0, none⟩))])] h0 fun r1 h2 =>
    (∃ i3 : Int, r1 = (.int .i64 i3) ∧
    (Q (.int .i64 i3) h2))) :
    Wf Try.prog K 48 [(.slice pa0 na0 ca0), (.int .u64 ia1)] h Q :=
  vcF_sound (hs := []) hk (Eq.mpr (by kernel_rfl) H)
theorem vc_rule_place_1 {K : Xs} (hk : K 59 = none) (ia0_0 : Int) (sa0_1 : ByteArray) (ba0_2 : Bool) (ia0_3 : Int) (ia0_4 : Int) (ia0_5 : Int) (ia0_6 : Int) (ia0_7 : Int) (ia0_8 : Int) (ia0_9 : Int) (pa0_10 : Option Addr) (na0_10 ca0_10 : Nat) (pf0 : Option Addr) (h : AH) (Q : Value → AH → Prop) (H :
    ∀ h0 : AH, h0 = h.alloc (.cells ([(.int .u64 ia0_0), (.string sa0_1), (.bool ba0_2), (.int .u64 ia0_3), (.int .u64 ia0_4), (.int .u64 ia0_5), (.int .i64 ia0_6), (.int .i64 ia0_7), (.int .u64 ia0_8), (.int .u32 ia0_9), (.slice pa0_10 na0_10 ca0_10)] : List Value) 59 false) →
    ∃ i1 : Int, ld1 h0 h.next 0 = some (.int .u64 i1) ∧
    (derefP pf0 fun b2 o3 => (∃ i4 : Int, ld1 h0 b2 o3 = some (.int .u64 i4) ∧
    (((i1 : Int) = i4 → Q (.bool true) h0) ∧
    (¬ (i1 : Int) = i4 → Q (.bool false) h0))))) :
    Wf Try.prog K 59 [(.agg #[(.int .u64 ia0_0), (.string sa0_1), (.bool ba0_2), (.int .u64 ia0_3), (.int .u64 ia0_4), (.int .u64 ia0_5), (.int .i64 ia0_6), (.int .i64 ia0_7), (.int .u64 ia0_8), (.int .u32 ia0_9), (.slice pa0_10 na0_10 ca0_10)]), (.pointer pf0)] h Q :=
  vcF_sound (hs := []) hk (Eq.mpr (by kernel_rfl) H)
theorem vc_rule_added {K : Xs} (hk : K 37 = none) (ia0_0 : Int) (pa0_1 : Option Addr) (na0_1 ca0_1 : Nat) (ia1_0 : Int) (sa1_1 : ByteArray) (ba1_2 : Bool) (ia1_3 : Int) (ia1_4 : Int) (ia1_5 : Int) (ia1_6 : Int) (ia1_7 : Int) (ia1_8 : Int) (ia1_9 : Int) (pa1_10 : Option Addr) (na1_10 ca1_10 : Nat) (h : AH) (Q : Value → AH → Prop) (H :
    ∀ h0 : AH, h0 = h.alloc (.cells ([(.int .u64 ia0_0), (.slice pa0_1 na0_1 ca0_1)] : List Value) 49 false) →
    ∀ h1 : AH, h1 = h0.alloc (.cells ([(.int .u64 ia1_0), (.string sa1_1), (.bool ba1_2), (.int .u64 ia1_3), (.int .u64 ia1_4), (.int .u64 ia1_5), (.int .i64 ia1_6), (.int .i64 ia1_7), (.int .u64 ia1_8), (.int .u32 ia1_9), (.slice pa1_10 na1_10 ca1_10)] : List Value) 59 false) →
    ∀ h2 : AH, h2 = h1.alloc (.cells ([(.int .u64 0), (.slice none 0 0)] : List Value) 49 false) →
    ∃ i3 : Int, ∃ (p4 : Option Addr) (n5 c6 : Nat), ldN h2 h.next 0 2 = some ([(.int .u64 i3), (.slice p4 n5 c6)] : List Value) ∧
    (Wf Try.prog K 35 [(.agg #[(.int .u64 i3), (.slice p4 n5 c6)])] h2 fun r7 h8 =>
    (∃ i9 : Int, ∃ (p10 : Option Addr) (n11 c12 : Nat), r7 = (.agg #[(.int .u64 i9), (.slice p10 n11 c12)]) ∧
    (∀ h13 : AH, h13 = h8.alloc (.cells ([(.int .u64 0), (.slice none 0 0)] : List Value) 49 false) →
    (List.length ([(.int .u64 i9), (.slice p10 n11 c12)] : List Value) = 2) ∧ ∃ h14 : AH, stN h13 h8.next 0 ([(.int .u64 i9), (.slice p10 n11 c12)] : List Value) = some h14 ∧
    (∃ (p15 : Option Addr) (n16 c17 : Nat), ld1 h14 h8.next 1 = some (.slice p15 n16 c17) ∧
    (∃ i18 : Int, ∃ s19 : ByteArray, ∃ b20 : Bool, ∃ i21 : Int, ∃ i22 : Int, ∃ i23 : Int, ∃ i24 : Int, ∃ i25 : Int, ∃ i26 : Int, ∃ i27 : Int, ∃ (p28 : Option Addr) (n29 c30 : Nat), ldN h14 h0.next 0 11 = some ([(.int .u64 i18), (.string s19), (.bool b20), (.int .u64 i21), (.int .u64 i22), (.int .u64 i23), (.int .i64 i24), (.int .i64 i25), (.int .u64 i26), (.int .u32 i27), (.slice p28 n29 c30)] : List Value) ∧
    (∀ h31 : AH, h31 = h14.alloc (.cells ([(.int .u64 i18), (.string s19), (.bool b20), (.int .u64 i21), (.int .u64 i22), (.int .u64 i23), (.int .i64 i24), (.int .i64 i25), (.int .u64 i26), (.int .u32 i27), (.slice p28 n29 c30)] : List Value) 59 false) →
    ∃ (p32 : Option Addr) (n33 c34 : Nat) (h35 : AH), aBuiltin Try.prog h31 .append #[47, 47] [(.slice p15 n16 c17), (.slice (some ⟨h14.next, 0, none⟩) 1 1)] = some (.slice p32 n33 c34, h35) ∧
    (∃ h36 : AH, st1 h35 h8.next 1 (.slice p32 n33 c34) = some h36 ∧
    (∃ i37 : Int, ld1 h36 h8.next 0 = some (.int .u64 i37) ∧
    (∀ i38 : Int, i38 = IntKind.wrap .u64 (i37 + 1) → ∃ h39 : AH, st1 h36 h8.next 0 (.int .u64 i38) = some h39 ∧
    (∃ i40 : Int, ∃ (p41 : Option Addr) (n42 c43 : Nat), ldN h39 h8.next 0 2 = some ([(.int .u64 i40), (.slice p41 n42 c43)] : List Value) ∧
    ((List.length ([(.int .u64 i40), (.slice p41 n42 c43)] : List Value) = 2) ∧ ∃ h44 : AH, stN h39 h1.next 0 ([(.int .u64 i40), (.slice p41 n42 c43)] : List Value) = some h44 ∧
    (∃ i45 : Int, ∃ (p46 : Option Addr) (n47 c48 : Nat), ldN h44 h1.next 0 2 = some ([(.int .u64 i45), (.slice p46 n47 c48)] : List Value) ∧
    (Q (.agg #[(.int .u64 i45), (.slice p46 n47 c48)]) h44)))))))))))))) :
    Wf Try.prog K 37 [(.agg #[(.int .u64 ia0_0), (.slice pa0_1 na0_1 ca0_1)]), (.agg #[(.int .u64 ia1_0), (.string sa1_1), (.bool ba1_2), (.int .u64 ia1_3), (.int .u64 ia1_4), (.int .u64 ia1_5), (.int .i64 ia1_6), (.int .i64 ia1_7), (.int .u64 ia1_8), (.int .u32 ia1_9), (.slice pa1_10 na1_10 ca1_10)])] h Q :=
  vcF_sound (hs := []) hk (Eq.mpr (by kernel_rfl) H)
theorem vc_rule_volName {K : Xs} (hk : K 34 = none) (sa0 : ByteArray) (h : AH) (Q : Value → AH → Prop) (H :
    Wf Try.prog K 52 [(.string sa0)] h fun r0 h1 =>
    (∃ s2 : ByteArray, ∃ s3 : ByteArray, ∃ i4 : Int, r0 = (.tuple #[(.string s2), (.string s3), (.int .i64 i4)]) ∧
    (((i4 : Int) = 0 → (s3 = (ByteArray.mk #[]) → Q (.tuple #[(.string s2), (.int .i64 0)]) h1) ∧
    (¬ s3 = (ByteArray.mk #[]) → Q (.tuple #[(.string (ByteArray.mk #[])), (.int .i64 141)]) h1)) ∧
    (¬ (i4 : Int) = 0 → Q (.tuple #[(.string (ByteArray.mk #[])), (.int .i64 141)]) h1)))) :
    Wf Try.prog K 34 [(.string sa0)] h Q :=
  vcF_sound (hs := []) hk (Eq.mpr (by kernel_rfl) H)
theorem vc_rule_snapName {K : Xs} (hk : K 42 = none) (sa0 : ByteArray) (h : AH) (Q : Value → AH → Prop) (H :
    Wf Try.prog K 52 [(.string sa0)] h fun r0 h1 =>
    (∃ s2 : ByteArray, ∃ s3 : ByteArray, ∃ i4 : Int, r0 = (.tuple #[(.string s2), (.string s3), (.int .i64 i4)]) ∧
    (((i4 : Int) = 0 → (s3 = (ByteArray.mk #[]) → Q (.tuple #[(.string (ByteArray.mk #[])), (.string (ByteArray.mk #[])), (.int .i64 141)]) h1) ∧
    (¬ s3 = (ByteArray.mk #[]) → Q (.tuple #[(.string s2), (.string s3), (.int .i64 0)]) h1)) ∧
    (¬ (i4 : Int) = 0 → Q (.tuple #[(.string (ByteArray.mk #[])), (.string (ByteArray.mk #[])), (.int .i64 141)]) h1)))) :
    Wf Try.prog K 42 [(.string sa0)] h Q :=
  vcF_sound (hs := []) hk (Eq.mpr (by kernel_rfl) H)
theorem vc_rule_named {K : Xs} (hk : K 36 = none) (ia0_0 : Int) (pa0_1 : Option Addr) (na0_1 ca0_1 : Nat) (sa1 : ByteArray) (h : AH) (Q : Value → AH → Prop) (H :
    ∀ h0 : AH, h0 = h.alloc (.cells ([(.int .u64 ia0_0), (.slice pa0_1 na0_1 ca0_1)] : List Value) 49 false) →
    ∃ (p1 : Option Addr) (n2 c3 : Nat), ld1 h0 h.next 1 = some (.slice p1 n2 c3) ∧
    (Wf Try.prog K 30 [(.slice p1 n2 c3), (.string sa1)] h0 fun r4 h5 =>
    (∃ i6 : Int, ∃ s7 : ByteArray, ∃ b8 : Bool, ∃ i9 : Int, ∃ i10 : Int, ∃ i11 : Int, ∃ i12 : Int, ∃ i13 : Int, ∃ i14 : Int, ∃ i15 : Int, ∃ (p16 : Option Addr) (n17 c18 : Nat), ∃ i19 : Int, r4 = (.tuple #[(.agg #[(.int .u64 i6), (.string s7), (.bool b8), (.int .u64 i9), (.int .u64 i10), (.int .u64 i11), (.int .i64 i12), (.int .i64 i13), (.int .u64 i14), (.int .u32 i15), (.slice p16 n17 c18)]), (.int .i64 i19)]) ∧
    (∀ h20 : AH, h20 = h5.alloc (.cells ([(.int .u64 0), (.string (ByteArray.mk #[])), (.bool false), (.int .u64 0), (.int .u64 0), (.int .u64 0), (.int .i64 0), (.int .i64 0), (.int .u64 0), (.int .u32 0), (.slice none 0 0)] : List Value) 59 false) →
    (List.length ([(.int .u64 i6), (.string s7), (.bool b8), (.int .u64 i9), (.int .u64 i10), (.int .u64 i11), (.int .i64 i12), (.int .i64 i13), (.int .u64 i14), (.int .u32 i15), (.slice p16 n17 c18)] : List Value) = 11) ∧ ∃ h21 : AH, stN h20 h5.next 0 ([(.int .u64 i6), (.string s7), (.bool b8), (.int .u64 i9), (.int .u64 i10), (.int .u64 i11), (.int .i64 i12), (.int .i64 i13), (.int .u64 i14), (.int .u32 i15), (.slice p16 n17 c18)] : List Value) = some h21 ∧
    (((i19 : Int) = 0 → ∃ (p22 : Option Addr) (n23 c24 : Nat), ld1 h21 h.next 1 = some (.slice p22 n23 c24) ∧
    (∃ i25 : Int, ld1 h21 h5.next 0 = some (.int .u64 i25) ∧
    (Wf Try.prog K 48 [(.slice p22 n23 c24), (.int .u64 i25)] h21 fun r26 h27 =>
    (∃ i28 : Int, r26 = (.int .i64 i28) ∧
    (Q (.int .i64 i28) h27))))) ∧
    (¬ (i19 : Int) = 0 → Q (.int .i64 (-1)) h21)))))) :
    Wf Try.prog K 36 [(.agg #[(.int .u64 ia0_0), (.slice pa0_1 na0_1 ca0_1)]), (.string sa1)] h Q :=
  vcF_sound (hs := []) hk (Eq.mpr (by kernel_rfl) H)
theorem vc_rule_volAt {K : Xs} (hk : K 45 = none) (ia0_0 : Int) (pa0_1 : Option Addr) (na0_1 ca0_1 : Nat) (sa1 : ByteArray) (h : AH) (Q : Value → AH → Prop) (H :
    ∀ h0 : AH, h0 = h.alloc (.cells ([(.int .u64 ia0_0), (.slice pa0_1 na0_1 ca0_1)] : List Value) 49 false) →
    Wf Try.prog K 34 [(.string sa1)] h0 fun r1 h2 =>
    (∃ s3 : ByteArray, ∃ i4 : Int, r1 = (.tuple #[(.string s3), (.int .i64 i4)]) ∧
    (((i4 : Int) = 0 → ∃ i5 : Int, ∃ (p6 : Option Addr) (n7 c8 : Nat), ldN h2 h.next 0 2 = some ([(.int .u64 i5), (.slice p6 n7 c8)] : List Value) ∧
    (Wf Try.prog K 36 [(.agg #[(.int .u64 i5), (.slice p6 n7 c8)]), (.string sa1)] h2 fun r9 h10 =>
    (∃ i11 : Int, r9 = (.int .i64 i11) ∧
    (((i11 : Int) < 0 → Q (.tuple #[(.int .i64 (-1)), (.int .i64 172)]) h10) ∧
    (¬ (i11 : Int) < 0 → Q (.tuple #[(.int .i64 i11), (.int .i64 0)]) h10))))) ∧
    (¬ (i4 : Int) = 0 → Q (.tuple #[(.int .i64 (-1)), (.int .i64 i4)]) h2)))) :
    Wf Try.prog K 45 [(.agg #[(.int .u64 ia0_0), (.slice pa0_1 na0_1 ca0_1)]), (.string sa1)] h Q :=
  vcF_sound (hs := []) hk (Eq.mpr (by kernel_rfl) H)
theorem vc_rule_Create {K : Xs} (hk : K 18 = none) (ia0_0 : Int) (pa0_1 : Option Addr) (na0_1 ca0_1 : Nat) (sa1 : ByteArray) (ia2 : Int) (h : AH) (Q : Value → AH → Prop) (H :
    ∀ h0 : AH, h0 = h.alloc (.cells ([(.int .u64 ia0_0), (.slice pa0_1 na0_1 ca0_1)] : List Value) 49 false) →
    ∀ h1 : AH, h1 = h0.alloc (.cells ([(.int .u64 0), (.slice none 0 0)] : List Value) 49 false) →
    Wf Try.prog K 34 [(.string sa1)] h1 fun r2 h3 =>
    (∃ s4 : ByteArray, ∃ i5 : Int, r2 = (.tuple #[(.string s4), (.int .i64 i5)]) ∧
    (((i5 : Int) = 0 → ((ia2 : Int) < 1 → ∃ i6 : Int, ∃ (p7 : Option Addr) (n8 c9 : Nat), ldN h3 h.next 0 2 = some ([(.int .u64 i6), (.slice p7 n8 c9)] : List Value) ∧
    (Wf Try.prog K 35 [(.agg #[(.int .u64 i6), (.slice p7 n8 c9)])] h3 fun r10 h11 =>
    (∃ i12 : Int, ∃ (p13 : Option Addr) (n14 c15 : Nat), r10 = (.agg #[(.int .u64 i12), (.slice p13 n14 c15)]) ∧
    ((List.length ([(.int .u64 i12), (.slice p13 n14 c15)] : List Value) = 2) ∧ ∃ h16 : AH, stN h11 h0.next 0 ([(.int .u64 i12), (.slice p13 n14 c15)] : List Value) = some h16 ∧
    (∃ i17 : Int, ∃ (p18 : Option Addr) (n19 c20 : Nat), ldN h16 h0.next 0 2 = some ([(.int .u64 i17), (.slice p18 n19 c20)] : List Value) ∧
    (Q (.tuple #[(.agg #[(.int .u64 i17), (.slice p18 n19 c20)]), (.int .i64 176)]) h16)))))) ∧
    (¬ (ia2 : Int) < 1 → ((64 : Int) < ia2 → ∃ i21 : Int, ∃ (p22 : Option Addr) (n23 c24 : Nat), ldN h3 h.next 0 2 = some ([(.int .u64 i21), (.slice p22 n23 c24)] : List Value) ∧
    (Wf Try.prog K 35 [(.agg #[(.int .u64 i21), (.slice p22 n23 c24)])] h3 fun r25 h26 =>
    (∃ i27 : Int, ∃ (p28 : Option Addr) (n29 c30 : Nat), r25 = (.agg #[(.int .u64 i27), (.slice p28 n29 c30)]) ∧
    ((List.length ([(.int .u64 i27), (.slice p28 n29 c30)] : List Value) = 2) ∧ ∃ h31 : AH, stN h26 h0.next 0 ([(.int .u64 i27), (.slice p28 n29 c30)] : List Value) = some h31 ∧
    (∃ i32 : Int, ∃ (p33 : Option Addr) (n34 c35 : Nat), ldN h31 h0.next 0 2 = some ([(.int .u64 i32), (.slice p33 n34 c35)] : List Value) ∧
    (Q (.tuple #[(.agg #[(.int .u64 i32), (.slice p33 n34 c35)]), (.int .i64 176)]) h31)))))) ∧
    (¬ (64 : Int) < ia2 → ∃ (p36 : Option Addr) (n37 c38 : Nat), ld1 h3 h.next 1 = some (.slice p36 n37 c38) ∧
    (((32 : Int) ≤ ((n37 : Nat) : Int) → ∃ i39 : Int, ∃ (p40 : Option Addr) (n41 c42 : Nat), ldN h3 h.next 0 2 = some ([(.int .u64 i39), (.slice p40 n41 c42)] : List Value) ∧
    (Wf Try.prog K 35 [(.agg #[(.int .u64 i39), (.slice p40 n41 c42)])] h3 fun r43 h44 =>
    (∃ i45 : Int, ∃ (p46 : Option Addr) (n47 c48 : Nat), r43 = (.agg #[(.int .u64 i45), (.slice p46 n47 c48)]) ∧
    ((List.length ([(.int .u64 i45), (.slice p46 n47 c48)] : List Value) = 2) ∧ ∃ h49 : AH, stN h44 h0.next 0 ([(.int .u64 i45), (.slice p46 n47 c48)] : List Value) = some h49 ∧
    (∃ i50 : Int, ∃ (p51 : Option Addr) (n52 c53 : Nat), ldN h49 h0.next 0 2 = some ([(.int .u64 i50), (.slice p51 n52 c53)] : List Value) ∧
    (Q (.tuple #[(.agg #[(.int .u64 i50), (.slice p51 n52 c53)]), (.int .i64 175)]) h49)))))) ∧
    (¬ (32 : Int) ≤ ((n37 : Nat) : Int) → ∃ i54 : Int, ∃ (p55 : Option Addr) (n56 c57 : Nat), ldN h3 h.next 0 2 = some ([(.int .u64 i54), (.slice p55 n56 c57)] : List Value) ∧
    (Wf Try.prog K 36 [(.agg #[(.int .u64 i54), (.slice p55 n56 c57)]), (.string sa1)] h3 fun r58 h59 =>
    (∃ i60 : Int, r58 = (.int .i64 i60) ∧
    (((0 : Int) ≤ i60 → ∃ i61 : Int, ∃ (p62 : Option Addr) (n63 c64 : Nat), ldN h59 h.next 0 2 = some ([(.int .u64 i61), (.slice p62 n63 c64)] : List Value) ∧
    (Wf Try.prog K 35 [(.agg #[(.int .u64 i61), (.slice p62 n63 c64)])] h59 fun r65 h66 =>
    (∃ i67 : Int, ∃ (p68 : Option Addr) (n69 c70 : Nat), r65 = (.agg #[(.int .u64 i67), (.slice p68 n69 c70)]) ∧
    ((List.length ([(.int .u64 i67), (.slice p68 n69 c70)] : List Value) = 2) ∧ ∃ h71 : AH, stN h66 h0.next 0 ([(.int .u64 i67), (.slice p68 n69 c70)] : List Value) = some h71 ∧
    (∃ i72 : Int, ∃ (p73 : Option Addr) (n74 c75 : Nat), ldN h71 h0.next 0 2 = some ([(.int .u64 i72), (.slice p73 n74 c75)] : List Value) ∧
    (Q (.tuple #[(.agg #[(.int .u64 i72), (.slice p73 n74 c75)]), (.int .i64 171)]) h71)))))) ∧
    (¬ (0 : Int) ≤ i60 → ∃ i76 : Int, ∃ (p77 : Option Addr) (n78 c79 : Nat), ldN h59 h.next 0 2 = some ([(.int .u64 i76), (.slice p77 n78 c79)] : List Value) ∧
    (∃ i80 : Int, ld1 h59 h.next 0 = some (.int .u64 i80) ∧
    (∃ i81 : Int, ld1 h59 h.next 0 = some (.int .u64 i81) ∧
    (Wf Try.prog K 37 [(.agg #[(.int .u64 i76), (.slice p77 n78 c79)]), (.agg #[(.int .u64 i80), (.string s4), (.bool false), (.int .u64 i81), (.int .u64 0), (.int .u64 0), (.int .i64 ia2), (.int .i64 0), (.int .u64 0), (.int .u32 0), (.slice none 0 0)])] h59 fun r82 h83 =>
    (∃ i84 : Int, ∃ (p85 : Option Addr) (n86 c87 : Nat), r82 = (.agg #[(.int .u64 i84), (.slice p85 n86 c87)]) ∧
    ((List.length ([(.int .u64 i84), (.slice p85 n86 c87)] : List Value) = 2) ∧ ∃ h88 : AH, stN h83 h0.next 0 ([(.int .u64 i84), (.slice p85 n86 c87)] : List Value) = some h88 ∧
    (∃ i89 : Int, ∃ (p90 : Option Addr) (n91 c92 : Nat), ldN h88 h0.next 0 2 = some ([(.int .u64 i89), (.slice p90 n91 c92)] : List Value) ∧
    (Q (.tuple #[(.agg #[(.int .u64 i89), (.slice p90 n91 c92)]), (.int .i64 0)]) h88)))))))))))))))) ∧
    (¬ (i5 : Int) = 0 → ∃ i93 : Int, ∃ (p94 : Option Addr) (n95 c96 : Nat), ldN h3 h.next 0 2 = some ([(.int .u64 i93), (.slice p94 n95 c96)] : List Value) ∧
    (Wf Try.prog K 35 [(.agg #[(.int .u64 i93), (.slice p94 n95 c96)])] h3 fun r97 h98 =>
    (∃ i99 : Int, ∃ (p100 : Option Addr) (n101 c102 : Nat), r97 = (.agg #[(.int .u64 i99), (.slice p100 n101 c102)]) ∧
    ((List.length ([(.int .u64 i99), (.slice p100 n101 c102)] : List Value) = 2) ∧ ∃ h103 : AH, stN h98 h0.next 0 ([(.int .u64 i99), (.slice p100 n101 c102)] : List Value) = some h103 ∧
    (∃ i104 : Int, ∃ (p105 : Option Addr) (n106 c107 : Nat), ldN h103 h0.next 0 2 = some ([(.int .u64 i104), (.slice p105 n106 c107)] : List Value) ∧
    (Q (.tuple #[(.agg #[(.int .u64 i104), (.slice p105 n106 c107)]), (.int .i64 i5)]) h103))))))))) :
    Wf Try.prog K 18 [(.agg #[(.int .u64 ia0_0), (.slice pa0_1 na0_1 ca0_1)]), (.string sa1), (.int .i64 ia2)] h Q :=
  vcF_sound (hs := []) hk (Eq.mpr (by kernel_rfl) H)
theorem vc_rule_Snap {K : Xs} (hk : K 23 = none) (ia0_0 : Int) (pa0_1 : Option Addr) (na0_1 ca0_1 : Nat) (sa1 : ByteArray) (ia2 : Int) (h : AH) (Q : Value → AH → Prop) (H :
    ∀ h0 : AH, h0 = h.alloc (.cells ([(.int .u64 ia0_0), (.slice pa0_1 na0_1 ca0_1)] : List Value) 49 false) →
    ∀ h1 : AH, h1 = h0.alloc (.cells ([(.int .u64 0), (.slice none 0 0)] : List Value) 49 false) →
    Wf Try.prog K 42 [(.string sa1)] h1 fun r2 h3 =>
    (∃ s4 : ByteArray, ∃ s5 : ByteArray, ∃ i6 : Int, r2 = (.tuple #[(.string s4), (.string s5), (.int .i64 i6)]) ∧
    (((i6 : Int) = 0 → ∃ i7 : Int, ∃ (p8 : Option Addr) (n9 c10 : Nat), ldN h3 h.next 0 2 = some ([(.int .u64 i7), (.slice p8 n9 c10)] : List Value) ∧
    (Wf Try.prog K 36 [(.agg #[(.int .u64 i7), (.slice p8 n9 c10)]), (.string s4)] h3 fun r11 h12 =>
    (∃ i13 : Int, r11 = (.int .i64 i13) ∧
    (((i13 : Int) < 0 → ∃ i14 : Int, ∃ (p15 : Option Addr) (n16 c17 : Nat), ldN h12 h.next 0 2 = some ([(.int .u64 i14), (.slice p15 n16 c17)] : List Value) ∧
    (Wf Try.prog K 35 [(.agg #[(.int .u64 i14), (.slice p15 n16 c17)])] h12 fun r18 h19 =>
    (∃ i20 : Int, ∃ (p21 : Option Addr) (n22 c23 : Nat), r18 = (.agg #[(.int .u64 i20), (.slice p21 n22 c23)]) ∧
    ((List.length ([(.int .u64 i20), (.slice p21 n22 c23)] : List Value) = 2) ∧ ∃ h24 : AH, stN h19 h0.next 0 ([(.int .u64 i20), (.slice p21 n22 c23)] : List Value) = some h24 ∧
    (∃ i25 : Int, ∃ (p26 : Option Addr) (n27 c28 : Nat), ldN h24 h0.next 0 2 = some ([(.int .u64 i25), (.slice p26 n27 c28)] : List Value) ∧
    (Q (.tuple #[(.agg #[(.int .u64 i25), (.slice p26 n27 c28)]), (.int .i64 172)]) h24)))))) ∧
    (¬ (i13 : Int) < 0 → ∃ (p29 : Option Addr) (n30 c31 : Nat), ld1 h12 h.next 1 = some (.slice p29 n30 c31) ∧
    (((32 : Int) ≤ ((n30 : Nat) : Int) → ∃ i32 : Int, ∃ (p33 : Option Addr) (n34 c35 : Nat), ldN h12 h.next 0 2 = some ([(.int .u64 i32), (.slice p33 n34 c35)] : List Value) ∧
    (Wf Try.prog K 35 [(.agg #[(.int .u64 i32), (.slice p33 n34 c35)])] h12 fun r36 h37 =>
    (∃ i38 : Int, ∃ (p39 : Option Addr) (n40 c41 : Nat), r36 = (.agg #[(.int .u64 i38), (.slice p39 n40 c41)]) ∧
    ((List.length ([(.int .u64 i38), (.slice p39 n40 c41)] : List Value) = 2) ∧ ∃ h42 : AH, stN h37 h0.next 0 ([(.int .u64 i38), (.slice p39 n40 c41)] : List Value) = some h42 ∧
    (∃ i43 : Int, ∃ (p44 : Option Addr) (n45 c46 : Nat), ldN h42 h0.next 0 2 = some ([(.int .u64 i43), (.slice p44 n45 c46)] : List Value) ∧
    (Q (.tuple #[(.agg #[(.int .u64 i43), (.slice p44 n45 c46)]), (.int .i64 175)]) h42)))))) ∧
    (¬ (32 : Int) ≤ ((n30 : Nat) : Int) → ∃ i47 : Int, ∃ (p48 : Option Addr) (n49 c50 : Nat), ldN h12 h.next 0 2 = some ([(.int .u64 i47), (.slice p48 n49 c50)] : List Value) ∧
    (Wf Try.prog K 36 [(.agg #[(.int .u64 i47), (.slice p48 n49 c50)]), (.string sa1)] h12 fun r51 h52 =>
    (∃ i53 : Int, r51 = (.int .i64 i53) ∧
    (((0 : Int) ≤ i53 → ∃ i54 : Int, ∃ (p55 : Option Addr) (n56 c57 : Nat), ldN h52 h.next 0 2 = some ([(.int .u64 i54), (.slice p55 n56 c57)] : List Value) ∧
    (Wf Try.prog K 35 [(.agg #[(.int .u64 i54), (.slice p55 n56 c57)])] h52 fun r58 h59 =>
    (∃ i60 : Int, ∃ (p61 : Option Addr) (n62 c63 : Nat), r58 = (.agg #[(.int .u64 i60), (.slice p61 n62 c63)]) ∧
    ((List.length ([(.int .u64 i60), (.slice p61 n62 c63)] : List Value) = 2) ∧ ∃ h64 : AH, stN h59 h0.next 0 ([(.int .u64 i60), (.slice p61 n62 c63)] : List Value) = some h64 ∧
    (∃ i65 : Int, ∃ (p66 : Option Addr) (n67 c68 : Nat), ldN h64 h0.next 0 2 = some ([(.int .u64 i65), (.slice p66 n67 c68)] : List Value) ∧
    (Q (.tuple #[(.agg #[(.int .u64 i65), (.slice p66 n67 c68)]), (.int .i64 171)]) h64)))))) ∧
    (¬ (0 : Int) ≤ i53 → ∃ (p69 : Option Addr) (n70 c71 : Nat), ld1 h52 h.next 1 = some (.slice p69 n70 c71) ∧
    (derefP p69 fun b72 o73 => (((0 : Int) ≤ i13) ∧ ((i13 : Int) < ((n70 : Nat) : Int)) ∧
    (∃ i74 : Int, ld1 h52 b72 (o73 + Int.toNat i13 * 11) = some (.int .u64 i74) ∧
    (((ia2 : Int) < 1 → ∃ i75 : Int, ∃ (p76 : Option Addr) (n77 c78 : Nat), ldN h52 h.next 0 2 = some ([(.int .u64 i75), (.slice p76 n77 c78)] : List Value) ∧
    (Wf Try.prog K 35 [(.agg #[(.int .u64 i75), (.slice p76 n77 c78)])] h52 fun r79 h80 =>
    (∃ i81 : Int, ∃ (p82 : Option Addr) (n83 c84 : Nat), r79 = (.agg #[(.int .u64 i81), (.slice p82 n83 c84)]) ∧
    ((List.length ([(.int .u64 i81), (.slice p82 n83 c84)] : List Value) = 2) ∧ ∃ h85 : AH, stN h80 h0.next 0 ([(.int .u64 i81), (.slice p82 n83 c84)] : List Value) = some h85 ∧
    (∃ i86 : Int, ∃ (p87 : Option Addr) (n88 c89 : Nat), ldN h85 h0.next 0 2 = some ([(.int .u64 i86), (.slice p87 n88 c89)] : List Value) ∧
    (Q (.tuple #[(.agg #[(.int .u64 i86), (.slice p87 n88 c89)]), (.int .i64 176)]) h85)))))) ∧
    (¬ (ia2 : Int) < 1 → ((281474976710655 : Int) < ia2 → ∃ i90 : Int, ∃ (p91 : Option Addr) (n92 c93 : Nat), ldN h52 h.next 0 2 = some ([(.int .u64 i90), (.slice p91 n92 c93)] : List Value) ∧
    (Wf Try.prog K 35 [(.agg #[(.int .u64 i90), (.slice p91 n92 c93)])] h52 fun r94 h95 =>
    (∃ i96 : Int, ∃ (p97 : Option Addr) (n98 c99 : Nat), r94 = (.agg #[(.int .u64 i96), (.slice p97 n98 c99)]) ∧
    ((List.length ([(.int .u64 i96), (.slice p97 n98 c99)] : List Value) = 2) ∧ ∃ h100 : AH, stN h95 h0.next 0 ([(.int .u64 i96), (.slice p97 n98 c99)] : List Value) = some h100 ∧
    (∃ i101 : Int, ∃ (p102 : Option Addr) (n103 c104 : Nat), ldN h100 h0.next 0 2 = some ([(.int .u64 i101), (.slice p102 n103 c104)] : List Value) ∧
    (Q (.tuple #[(.agg #[(.int .u64 i101), (.slice p102 n103 c104)]), (.int .i64 176)]) h100)))))) ∧
    (¬ (281474976710655 : Int) < ia2 → ∃ (p105 : Option Addr) (n106 c107 : Nat), ld1 h52 h.next 1 = some (.slice p105 n106 c107) ∧
    (Wf Try.prog K 43 [(.slice p105 n106 c107), (.int .u64 i74)] h52 fun r108 h109 =>
    (∃ i110 : Int, r108 = (.int .u64 i110) ∧
    (((ia2 : Int) ≤ i110 → ∃ i111 : Int, ∃ (p112 : Option Addr) (n113 c114 : Nat), ldN h109 h.next 0 2 = some ([(.int .u64 i111), (.slice p112 n113 c114)] : List Value) ∧
    (Wf Try.prog K 35 [(.agg #[(.int .u64 i111), (.slice p112 n113 c114)])] h109 fun r115 h116 =>
    (∃ i117 : Int, ∃ (p118 : Option Addr) (n119 c120 : Nat), r115 = (.agg #[(.int .u64 i117), (.slice p118 n119 c120)]) ∧
    ((List.length ([(.int .u64 i117), (.slice p118 n119 c120)] : List Value) = 2) ∧ ∃ h121 : AH, stN h116 h0.next 0 ([(.int .u64 i117), (.slice p118 n119 c120)] : List Value) = some h121 ∧
    (∃ i122 : Int, ∃ (p123 : Option Addr) (n124 c125 : Nat), ldN h121 h0.next 0 2 = some ([(.int .u64 i122), (.slice p123 n124 c125)] : List Value) ∧
    (Q (.tuple #[(.agg #[(.int .u64 i122), (.slice p123 n124 c125)]), (.int .i64 176)]) h121)))))) ∧
    (¬ (ia2 : Int) ≤ i110 → ∃ (p126 : Option Addr) (n127 c128 : Nat), ld1 h109 h.next 1 = some (.slice p126 n127 c128) ∧
    (derefP p126 fun b129 o130 => (((0 : Int) ≤ i13) ∧ ((i13 : Int) < ((n127 : Nat) : Int)) ∧
    (∃ i131 : Int, ∃ s132 : ByteArray, ∃ b133 : Bool, ∃ i134 : Int, ∃ i135 : Int, ∃ i136 : Int, ∃ i137 : Int, ∃ i138 : Int, ∃ i139 : Int, ∃ i140 : Int, ∃ (p141 : Option Addr) (n142 c143 : Nat), ldN h109 b129 (o130 + Int.toNat i13 * 11) 11 = some ([(.int .u64 i131), (.string s132), (.bool b133), (.int .u64 i134), (.int .u64 i135), (.int .u64 i136), (.int .i64 i137), (.int .i64 i138), (.int .u64 i139), (.int .u32 i140), (.slice p141 n142 c143)] : List Value) ∧
    (Wf Try.prog K 44 [(.agg #[(.int .u64 i131), (.string s132), (.bool b133), (.int .u64 i134), (.int .u64 i135), (.int .u64 i136), (.int .i64 i137), (.int .i64 i138), (.int .u64 i139), (.int .u32 i140), (.slice p141 n142 c143)])] h109 fun r144 h145 =>
    (∃ i146 : Int, ∃ s147 : ByteArray, ∃ b148 : Bool, ∃ i149 : Int, ∃ i150 : Int, ∃ i151 : Int, ∃ i152 : Int, ∃ i153 : Int, ∃ i154 : Int, ∃ i155 : Int, ∃ (p156 : Option Addr) (n157 c158 : Nat), r144 = (.agg #[(.int .u64 i146), (.string s147), (.bool b148), (.int .u64 i149), (.int .u64 i150), (.int .u64 i151), (.int .i64 i152), (.int .i64 i153), (.int .u64 i154), (.int .u32 i155), (.slice p156 n157 c158)]) ∧
    (∀ h159 : AH, h159 = h145.alloc (.cells ([(.int .u64 0), (.string (ByteArray.mk #[])), (.bool false), (.int .u64 0), (.int .u64 0), (.int .u64 0), (.int .i64 0), (.int .i64 0), (.int .u64 0), (.int .u32 0), (.slice none 0 0)] : List Value) 59 false) →
    (List.length ([(.int .u64 i146), (.string s147), (.bool b148), (.int .u64 i149), (.int .u64 i150), (.int .u64 i151), (.int .i64 i152), (.int .i64 i153), (.int .u64 i154), (.int .u32 i155), (.slice p156 n157 c158)] : List Value) = 11) ∧ ∃ h160 : AH, stN h159 h145.next 0 ([(.int .u64 i146), (.string s147), (.bool b148), (.int .u64 i149), (.int .u64 i150), (.int .u64 i151), (.int .i64 i152), (.int .i64 i153), (.int .u64 i154), (.int .u32 i155), (.slice p156 n157 c158)] : List Value) = some h160 ∧
    (∃ i161 : Int, ld1 h160 h.next 0 = some (.int .u64 i161) ∧
    (∃ h162 : AH, st1 h160 h145.next 0 (.int .u64 i161) = some h162 ∧
    (∃ h163 : AH, st1 h162 h145.next 1 (.string s5) = some h163 ∧
    (∃ h164 : AH, st1 h163 h145.next 2 (.bool true) = some h164 ∧
    (∃ h165 : AH, st1 h164 h145.next 3 (.int .u64 i74) = some h165 ∧
    (∃ h166 : AH, st1 h165 h145.next 5 (.int .u64 ia2) = some h166 ∧
    (∃ i167 : Int, ∃ (p168 : Option Addr) (n169 c170 : Nat), ldN h166 h.next 0 2 = some ([(.int .u64 i167), (.slice p168 n169 c170)] : List Value) ∧
    (∃ i171 : Int, ∃ s172 : ByteArray, ∃ b173 : Bool, ∃ i174 : Int, ∃ i175 : Int, ∃ i176 : Int, ∃ i177 : Int, ∃ i178 : Int, ∃ i179 : Int, ∃ i180 : Int, ∃ (p181 : Option Addr) (n182 c183 : Nat), ldN h166 h145.next 0 11 = some ([(.int .u64 i171), (.string s172), (.bool b173), (.int .u64 i174), (.int .u64 i175), (.int .u64 i176), (.int .i64 i177), (.int .i64 i178), (.int .u64 i179), (.int .u32 i180), (.slice p181 n182 c183)] : List Value) ∧
    (Wf Try.prog K 37 [(.agg #[(.int .u64 i167), (.slice p168 n169 c170)]), (.agg #[(.int .u64 i171), (.string s172), (.bool b173), (.int .u64 i174), (.int .u64 i175), (.int .u64 i176), (.int .i64 i177), (.int .i64 i178), (.int .u64 i179), (.int .u32 i180), (.slice p181 n182 c183)])] h166 fun r184 h185 =>
    (∃ i186 : Int, ∃ (p187 : Option Addr) (n188 c189 : Nat), r184 = (.agg #[(.int .u64 i186), (.slice p187 n188 c189)]) ∧
    (∀ h190 : AH, h190 = h185.alloc (.cells ([(.int .u64 0), (.slice none 0 0)] : List Value) 49 false) →
    (List.length ([(.int .u64 i186), (.slice p187 n188 c189)] : List Value) = 2) ∧ ∃ h191 : AH, stN h190 h185.next 0 ([(.int .u64 i186), (.slice p187 n188 c189)] : List Value) = some h191 ∧
    (∃ (p192 : Option Addr) (n193 c194 : Nat), ld1 h191 h185.next 1 = some (.slice p192 n193 c194) ∧
    (∃ i195 : Int, ld1 h191 h145.next 0 = some (.int .u64 i195) ∧
    (derefP p192 fun b196 o197 => (((0 : Int) ≤ i13) ∧ ((i13 : Int) < ((n193 : Nat) : Int)) ∧
    (∃ h198 : AH, st1 h191 b196 ((o197 + Int.toNat i13 * 11) + 4) (.int .u64 i195) = some h198 ∧
    (∃ (p199 : Option Addr) (n200 c201 : Nat), ld1 h198 h185.next 1 = some (.slice p199 n200 c201) ∧
    (derefP p199 fun b202 o203 => (((0 : Int) ≤ i13) ∧ ((i13 : Int) < ((n200 : Nat) : Int)) ∧
    (∃ h204 : AH, st1 h198 b202 ((o203 + Int.toNat i13 * 11) + 10) (.slice none 0 0) = some h204 ∧
    ((ld1 h191 h185.next 1 = some (.slice p199 n200 c201)) ∧
    ((ld1 h198 h185.next 1 = some (.slice p199 n200 c201)) ∧
    (∃ i205 : Int, ∃ (p206 : Option Addr) (n207 c208 : Nat), ldN h204 h185.next 0 2 = some ([(.int .u64 i205), (.slice p206 n207 c208)] : List Value) ∧
    ((List.length ([(.int .u64 i205), (.slice p206 n207 c208)] : List Value) = 2) ∧ ∃ h209 : AH, stN h204 h0.next 0 ([(.int .u64 i205), (.slice p206 n207 c208)] : List Value) = some h209 ∧
    (∃ i210 : Int, ∃ (p211 : Option Addr) (n212 c213 : Nat), ldN h209 h0.next 0 2 = some ([(.int .u64 i210), (.slice p211 n212 c213)] : List Value) ∧
    (Q (.tuple #[(.agg #[(.int .u64 i210), (.slice p211 n212 c213)]), (.int .i64 0)]) h209))))))))))))))))))))))))))))))))))))))))))))))))))))) ∧
    (¬ (i6 : Int) = 0 → ∃ i214 : Int, ∃ (p215 : Option Addr) (n216 c217 : Nat), ldN h3 h.next 0 2 = some ([(.int .u64 i214), (.slice p215 n216 c217)] : List Value) ∧
    (Wf Try.prog K 35 [(.agg #[(.int .u64 i214), (.slice p215 n216 c217)])] h3 fun r218 h219 =>
    (∃ i220 : Int, ∃ (p221 : Option Addr) (n222 c223 : Nat), r218 = (.agg #[(.int .u64 i220), (.slice p221 n222 c223)]) ∧
    ((List.length ([(.int .u64 i220), (.slice p221 n222 c223)] : List Value) = 2) ∧ ∃ h224 : AH, stN h219 h0.next 0 ([(.int .u64 i220), (.slice p221 n222 c223)] : List Value) = some h224 ∧
    (∃ i225 : Int, ∃ (p226 : Option Addr) (n227 c228 : Nat), ldN h224 h0.next 0 2 = some ([(.int .u64 i225), (.slice p226 n227 c228)] : List Value) ∧
    (Q (.tuple #[(.agg #[(.int .u64 i225), (.slice p226 n227 c228)]), (.int .i64 i6)]) h224))))))))) :
    Wf Try.prog K 23 [(.agg #[(.int .u64 ia0_0), (.slice pa0_1 na0_1 ca0_1)]), (.string sa1), (.int .u64 ia2)] h Q :=
  vcF_sound (hs := []) hk (Eq.mpr (by kernel_rfl) H)
theorem vc_rule_Clone {K : Xs} (hk : K 24 = none) (ia0_0 : Int) (pa0_1 : Option Addr) (na0_1 ca0_1 : Nat) (sa1 : ByteArray) (sa2 : ByteArray) (h : AH) (Q : Value → AH → Prop) (H :
    ∀ h0 : AH, h0 = h.alloc (.cells ([(.int .u64 ia0_0), (.slice pa0_1 na0_1 ca0_1)] : List Value) 49 false) →
    ∀ h1 : AH, h1 = h0.alloc (.cells ([(.int .u64 0), (.slice none 0 0)] : List Value) 49 false) →
    Wf Try.prog K 42 [(.string sa1)] h1 fun r2 h3 =>
    (∃ s4 : ByteArray, ∃ s5 : ByteArray, ∃ i6 : Int, r2 = (.tuple #[(.string s4), (.string s5), (.int .i64 i6)]) ∧
    (((i6 : Int) = 0 → Wf Try.prog K 34 [(.string sa2)] h3 fun r7 h8 =>
    (∃ s9 : ByteArray, ∃ i10 : Int, r7 = (.tuple #[(.string s9), (.int .i64 i10)]) ∧
    (((i10 : Int) = 0 → ∃ i11 : Int, ∃ (p12 : Option Addr) (n13 c14 : Nat), ldN h8 h.next 0 2 = some ([(.int .u64 i11), (.slice p12 n13 c14)] : List Value) ∧
    (Wf Try.prog K 36 [(.agg #[(.int .u64 i11), (.slice p12 n13 c14)]), (.string sa1)] h8 fun r15 h16 =>
    (∃ i17 : Int, r15 = (.int .i64 i17) ∧
    (((i17 : Int) < 0 → ∃ i18 : Int, ∃ (p19 : Option Addr) (n20 c21 : Nat), ldN h16 h.next 0 2 = some ([(.int .u64 i18), (.slice p19 n20 c21)] : List Value) ∧
    (Wf Try.prog K 35 [(.agg #[(.int .u64 i18), (.slice p19 n20 c21)])] h16 fun r22 h23 =>
    (∃ i24 : Int, ∃ (p25 : Option Addr) (n26 c27 : Nat), r22 = (.agg #[(.int .u64 i24), (.slice p25 n26 c27)]) ∧
    ((List.length ([(.int .u64 i24), (.slice p25 n26 c27)] : List Value) = 2) ∧ ∃ h28 : AH, stN h23 h0.next 0 ([(.int .u64 i24), (.slice p25 n26 c27)] : List Value) = some h28 ∧
    (∃ i29 : Int, ∃ (p30 : Option Addr) (n31 c32 : Nat), ldN h28 h0.next 0 2 = some ([(.int .u64 i29), (.slice p30 n31 c32)] : List Value) ∧
    (Q (.tuple #[(.agg #[(.int .u64 i29), (.slice p30 n31 c32)]), (.int .i64 172)]) h28)))))) ∧
    (¬ (i17 : Int) < 0 → ∃ (p33 : Option Addr) (n34 c35 : Nat), ld1 h16 h.next 1 = some (.slice p33 n34 c35) ∧
    (((32 : Int) ≤ ((n34 : Nat) : Int) → ∃ i36 : Int, ∃ (p37 : Option Addr) (n38 c39 : Nat), ldN h16 h.next 0 2 = some ([(.int .u64 i36), (.slice p37 n38 c39)] : List Value) ∧
    (Wf Try.prog K 35 [(.agg #[(.int .u64 i36), (.slice p37 n38 c39)])] h16 fun r40 h41 =>
    (∃ i42 : Int, ∃ (p43 : Option Addr) (n44 c45 : Nat), r40 = (.agg #[(.int .u64 i42), (.slice p43 n44 c45)]) ∧
    ((List.length ([(.int .u64 i42), (.slice p43 n44 c45)] : List Value) = 2) ∧ ∃ h46 : AH, stN h41 h0.next 0 ([(.int .u64 i42), (.slice p43 n44 c45)] : List Value) = some h46 ∧
    (∃ i47 : Int, ∃ (p48 : Option Addr) (n49 c50 : Nat), ldN h46 h0.next 0 2 = some ([(.int .u64 i47), (.slice p48 n49 c50)] : List Value) ∧
    (Q (.tuple #[(.agg #[(.int .u64 i47), (.slice p48 n49 c50)]), (.int .i64 175)]) h46)))))) ∧
    (¬ (32 : Int) ≤ ((n34 : Nat) : Int) → ∃ i51 : Int, ∃ (p52 : Option Addr) (n53 c54 : Nat), ldN h16 h.next 0 2 = some ([(.int .u64 i51), (.slice p52 n53 c54)] : List Value) ∧
    (Wf Try.prog K 36 [(.agg #[(.int .u64 i51), (.slice p52 n53 c54)]), (.string sa2)] h16 fun r55 h56 =>
    (∃ i57 : Int, r55 = (.int .i64 i57) ∧
    (((0 : Int) ≤ i57 → ∃ i58 : Int, ∃ (p59 : Option Addr) (n60 c61 : Nat), ldN h56 h.next 0 2 = some ([(.int .u64 i58), (.slice p59 n60 c61)] : List Value) ∧
    (Wf Try.prog K 35 [(.agg #[(.int .u64 i58), (.slice p59 n60 c61)])] h56 fun r62 h63 =>
    (∃ i64 : Int, ∃ (p65 : Option Addr) (n66 c67 : Nat), r62 = (.agg #[(.int .u64 i64), (.slice p65 n66 c67)]) ∧
    ((List.length ([(.int .u64 i64), (.slice p65 n66 c67)] : List Value) = 2) ∧ ∃ h68 : AH, stN h63 h0.next 0 ([(.int .u64 i64), (.slice p65 n66 c67)] : List Value) = some h68 ∧
    (∃ i69 : Int, ∃ (p70 : Option Addr) (n71 c72 : Nat), ldN h68 h0.next 0 2 = some ([(.int .u64 i69), (.slice p70 n71 c72)] : List Value) ∧
    (Q (.tuple #[(.agg #[(.int .u64 i69), (.slice p70 n71 c72)]), (.int .i64 171)]) h68)))))) ∧
    (¬ (0 : Int) ≤ i57 → ∃ (p73 : Option Addr) (n74 c75 : Nat), ld1 h56 h.next 1 = some (.slice p73 n74 c75) ∧
    (derefP p73 fun b76 o77 => (((0 : Int) ≤ i17) ∧ ((i17 : Int) < ((n74 : Nat) : Int)) ∧
    (∃ i78 : Int, ∃ (p79 : Option Addr) (n80 c81 : Nat), ldN h56 h.next 0 2 = some ([(.int .u64 i78), (.slice p79 n80 c81)] : List Value) ∧
    (∃ i82 : Int, ld1 h56 h.next 0 = some (.int .u64 i82) ∧
    (∃ i83 : Int, ld1 h56 h.next 0 = some (.int .u64 i83) ∧
    (∃ i84 : Int, ld1 h56 b76 (o77 + Int.toNat i17 * 11) = some (.int .u64 i84) ∧
    (∃ i85 : Int, ld1 h56 b76 ((o77 + Int.toNat i17 * 11) + 6) = some (.int .i64 i85) ∧
    (∃ i86 : Int, ∃ i87 : Int, ∃ i88 : Int, ldN h56 b76 ((o77 + Int.toNat i17 * 11) + 7) 3 = some ([(.int .i64 i86), (.int .u64 i87), (.int .u32 i88)] : List Value) ∧
    (Wf Try.prog K 37 [(.agg #[(.int .u64 i78), (.slice p79 n80 c81)]), (.agg #[(.int .u64 i82), (.string s9), (.bool false), (.int .u64 i83), (.int .u64 i84), (.int .u64 0), (.int .i64 i85), (.int .i64 i86), (.int .u64 i87), (.int .u32 i88), (.slice none 0 0)])] h56 fun r89 h90 =>
    (∃ i91 : Int, ∃ (p92 : Option Addr) (n93 c94 : Nat), r89 = (.agg #[(.int .u64 i91), (.slice p92 n93 c94)]) ∧
    ((List.length ([(.int .u64 i91), (.slice p92 n93 c94)] : List Value) = 2) ∧ ∃ h95 : AH, stN h90 h0.next 0 ([(.int .u64 i91), (.slice p92 n93 c94)] : List Value) = some h95 ∧
    (∃ i96 : Int, ∃ (p97 : Option Addr) (n98 c99 : Nat), ldN h95 h0.next 0 2 = some ([(.int .u64 i96), (.slice p97 n98 c99)] : List Value) ∧
    (Q (.tuple #[(.agg #[(.int .u64 i96), (.slice p97 n98 c99)]), (.int .i64 0)]) h95)))))))))))))))))))))))) ∧
    (¬ (i10 : Int) = 0 → ∃ i100 : Int, ∃ (p101 : Option Addr) (n102 c103 : Nat), ldN h8 h.next 0 2 = some ([(.int .u64 i100), (.slice p101 n102 c103)] : List Value) ∧
    (Wf Try.prog K 35 [(.agg #[(.int .u64 i100), (.slice p101 n102 c103)])] h8 fun r104 h105 =>
    (∃ i106 : Int, ∃ (p107 : Option Addr) (n108 c109 : Nat), r104 = (.agg #[(.int .u64 i106), (.slice p107 n108 c109)]) ∧
    ((List.length ([(.int .u64 i106), (.slice p107 n108 c109)] : List Value) = 2) ∧ ∃ h110 : AH, stN h105 h0.next 0 ([(.int .u64 i106), (.slice p107 n108 c109)] : List Value) = some h110 ∧
    (∃ i111 : Int, ∃ (p112 : Option Addr) (n113 c114 : Nat), ldN h110 h0.next 0 2 = some ([(.int .u64 i111), (.slice p112 n113 c114)] : List Value) ∧
    (Q (.tuple #[(.agg #[(.int .u64 i111), (.slice p112 n113 c114)]), (.int .i64 i10)]) h110))))))))) ∧
    (¬ (i6 : Int) = 0 → ∃ i115 : Int, ∃ (p116 : Option Addr) (n117 c118 : Nat), ldN h3 h.next 0 2 = some ([(.int .u64 i115), (.slice p116 n117 c118)] : List Value) ∧
    (Wf Try.prog K 35 [(.agg #[(.int .u64 i115), (.slice p116 n117 c118)])] h3 fun r119 h120 =>
    (∃ i121 : Int, ∃ (p122 : Option Addr) (n123 c124 : Nat), r119 = (.agg #[(.int .u64 i121), (.slice p122 n123 c124)]) ∧
    ((List.length ([(.int .u64 i121), (.slice p122 n123 c124)] : List Value) = 2) ∧ ∃ h125 : AH, stN h120 h0.next 0 ([(.int .u64 i121), (.slice p122 n123 c124)] : List Value) = some h125 ∧
    (∃ i126 : Int, ∃ (p127 : Option Addr) (n128 c129 : Nat), ldN h125 h0.next 0 2 = some ([(.int .u64 i126), (.slice p127 n128 c129)] : List Value) ∧
    (Q (.tuple #[(.agg #[(.int .u64 i126), (.slice p127 n128 c129)]), (.int .i64 i6)]) h125))))))))) :
    Wf Try.prog K 24 [(.agg #[(.int .u64 ia0_0), (.slice pa0_1 na0_1 ca0_1)]), (.string sa1), (.string sa2)] h Q :=
  vcF_sound (hs := []) hk (Eq.mpr (by kernel_rfl) H)
theorem vc_rule_Promote {K : Xs} (hk : K 25 = none) (ia0_0 : Int) (pa0_1 : Option Addr) (na0_1 ca0_1 : Nat) (sa1 : ByteArray) (h : AH) (Q : Value → AH → Prop) (H :
    ∀ h0 : AH, h0 = h.alloc (.cells ([(.int .u64 ia0_0), (.slice pa0_1 na0_1 ca0_1)] : List Value) 49 false) →
    ∀ h1 : AH, h1 = h0.alloc (.cells ([(.int .u64 0), (.slice none 0 0)] : List Value) 49 false) →
    ∃ i2 : Int, ∃ (p3 : Option Addr) (n4 c5 : Nat), ldN h1 h.next 0 2 = some ([(.int .u64 i2), (.slice p3 n4 c5)] : List Value) ∧
    (Wf Try.prog K 45 [(.agg #[(.int .u64 i2), (.slice p3 n4 c5)]), (.string sa1)] h1 fun r6 h7 =>
    (∃ i8 : Int, ∃ i9 : Int, r6 = (.tuple #[(.int .i64 i8), (.int .i64 i9)]) ∧
    (((i9 : Int) = 0 → ∃ (p10 : Option Addr) (n11 c12 : Nat), ld1 h7 h.next 1 = some (.slice p10 n11 c12) ∧
    (derefP p10 fun b13 o14 => (((0 : Int) ≤ i8) ∧ ((i8 : Int) < ((n11 : Nat) : Int)) ∧
    (∃ i15 : Int, ld1 h7 b13 (o14 + Int.toNat i8 * 11) = some (.int .u64 i15) ∧
    (∀ h16 : AH, h16 = h7.alloc (.cells ([(.int .u64 0)] : List Value) 46 false) →
    ∃ h17 : AH, st1 h16 h7.next 0 (.int .u64 i15) = some h17 ∧
    (∃ (p18 : Option Addr) (n19 c20 : Nat), ld1 h17 h.next 1 = some (.slice p18 n19 c20) ∧
    (∃ i21 : Int, ld1 h17 h7.next 0 = some (.int .u64 i21) ∧
    (Wf Try.prog K 17 [(.slice p18 n19 c20), (.int .u64 i21)] h17 fun r22 h23 =>
    (∃ i24 : Int, r22 = (.int .u64 i24) ∧
    (∃ (p25 : Option Addr) (n26 c27 : Nat), ld1 h23 h.next 1 = some (.slice p25 n26 c27) ∧
    (Wf Try.prog K 38 [(.slice p25 n26 c27), (.int .u64 i24)] h23 fun r28 h29 =>
    (∃ i30 : Int, ∃ s31 : ByteArray, ∃ b32 : Bool, ∃ i33 : Int, ∃ i34 : Int, ∃ i35 : Int, ∃ i36 : Int, ∃ i37 : Int, ∃ i38 : Int, ∃ i39 : Int, ∃ (p40 : Option Addr) (n41 c42 : Nat), ((r28 = (.tuple #[(.agg #[(.int .u64 i30), (.string s31), (.bool b32), (.int .u64 i33), (.int .u64 i34), (.int .u64 i35), (.int .i64 i36), (.int .i64 i37), (.int .u64 i38), (.int .u32 i39), (.slice p40 n41 c42)]), (.bool true)]) ∧
    (∀ h43 : AH, h43 = h29.alloc (.cells ([(.int .u64 0), (.string (ByteArray.mk #[])), (.bool false), (.int .u64 0), (.int .u64 0), (.int .u64 0), (.int .i64 0), (.int .i64 0), (.int .u64 0), (.int .u32 0), (.slice none 0 0)] : List Value) 59 false) →
    (List.length ([(.int .u64 i30), (.string s31), (.bool b32), (.int .u64 i33), (.int .u64 i34), (.int .u64 i35), (.int .i64 i36), (.int .i64 i37), (.int .u64 i38), (.int .u32 i39), (.slice p40 n41 c42)] : List Value) = 11) ∧ ∃ h44 : AH, stN h43 h29.next 0 ([(.int .u64 i30), (.string s31), (.bool b32), (.int .u64 i33), (.int .u64 i34), (.int .u64 i35), (.int .i64 i36), (.int .i64 i37), (.int .u64 i38), (.int .u32 i39), (.slice p40 n41 c42)] : List Value) = some h44 ∧
    ((ld1 h17 h.next 1 = some (.slice p25 n26 c27)) ∧
    ((ld1 h23 h.next 1 = some (.slice p25 n26 c27)) ∧
    (∃ (p45 : Option Addr) (n46 c47 : Nat), ld1 h44 h.next 1 = some (.slice p45 n46 c47) ∧
    (∃ i48 : Int, ld1 h44 h29.next 3 = some (.int .u64 i48) ∧
    (Wf Try.prog K 46 [(.slice p45 n46 c47), (.int .u64 i48)] h44 fun r49 h50 =>
    (∃ (p51 : Option Addr) (n52 c53 : Nat), r49 = (.slice p51 n52 c53) ∧
    (∃ i54 : Int, ld1 h50 h29.next 0 = some (.int .u64 i54) ∧
    (Wf Try.prog K 47 [(.slice p51 n52 c53), (.int .u64 i54)] h50 fun r55 h56 =>
    (∃ i57 : Int, r55 = (.int .i64 i57) ∧
    (∀ i58 : Int, i58 = (if 0 > (i57 : Int) then 0 else (i57 : Int)) → ∃ (p59 : Option Addr) (n60 c61 : Nat), aSlice Try.prog h56 83 (.slice p51 n52 c53) (some (.int .i64 i58)) none none = some (.slice p59 n60 c61) ∧
    (∃ i62 : Int, ∃ (p63 : Option Addr) (n64 c65 : Nat), ldN h56 h.next 0 2 = some ([(.int .u64 i62), (.slice p63 n64 c65)] : List Value) ∧
    (Wf Try.prog K 35 [(.agg #[(.int .u64 i62), (.slice p63 n64 c65)])] h56 fun r66 h67 =>
    (∃ i68 : Int, ∃ (p69 : Option Addr) (n70 c71 : Nat), r66 = (.agg #[(.int .u64 i68), (.slice p69 n70 c71)]) ∧
    (∀ h72 : AH, h72 = h67.alloc (.cells ([(.int .u64 0), (.slice none 0 0)] : List Value) 49 false) →
    (List.length ([(.int .u64 i68), (.slice p69 n70 c71)] : List Value) = 2) ∧ ∃ h73 : AH, stN h72 h67.next 0 ([(.int .u64 i68), (.slice p69 n70 c71)] : List Value) = some h73 ∧
    (∃ I74 : Int → Nat → AH → Prop, (∃ n, I74 0 n h73) ∧
    ∀ (k75 : Nat) (h76 : AH) (i78 : Int), I74 i78 k75 h76 →
    ((i78 : Int) < ((n60 : Nat) : Int) → derefP p59 fun b79 o80 => (((0 : Int) ≤ i78) ∧ ((i78 : Int) < ((n60 : Nat) : Int)) ∧
    (∃ i81 : Int, ld1 h76 b79 (o80 + Int.toNat i78 * 1) = some (.int .u64 i81) ∧
    (∃ (p82 : Option Addr) (n83 c84 : Nat), ld1 h76 h.next 1 = some (.slice p82 n83 c84) ∧
    (Wf Try.prog K 48 [(.slice p82 n83 c84), (.int .u64 i81)] h76 fun r85 h86 =>
    (∃ i87 : Int, r85 = (.int .i64 i87) ∧
    (∀ h88 : AH, h88 = h86.alloc (.cells ([(.int .i64 0)] : List Value) 3 false) →
    ∃ h89 : AH, st1 h88 h86.next 0 (.int .i64 i87) = some h89 ∧
    (∃ (p90 : Option Addr) (n91 c92 : Nat), ld1 h89 h.next 1 = some (.slice p90 n91 c92) ∧
    (Wf Try.prog K 49 [(.slice p90 n91 c92), (.func (.func 50) #[] #[(.pointer (some ⟨h7.next, 0, none⟩)), (.pointer (some ⟨h.next, 0, none⟩)), (.pointer (some ⟨h86.next, 0, none⟩))])] h89 fun r93 h94 =>
    (((r93 = (.bool true) ∧
    (∃ i95 : Int, ∃ (p96 : Option Addr) (n97 c98 : Nat), ldN h94 h.next 0 2 = some ([(.int .u64 i95), (.slice p96 n97 c98)] : List Value) ∧
    (Wf Try.prog K 35 [(.agg #[(.int .u64 i95), (.slice p96 n97 c98)])] h94 fun r99 h100 =>
    (∃ i101 : Int, ∃ (p102 : Option Addr) (n103 c104 : Nat), r99 = (.agg #[(.int .u64 i101), (.slice p102 n103 c104)]) ∧
    ((List.length ([(.int .u64 i101), (.slice p102 n103 c104)] : List Value) = 2) ∧ ∃ h105 : AH, stN h100 h0.next 0 ([(.int .u64 i101), (.slice p102 n103 c104)] : List Value) = some h105 ∧
    (∃ i106 : Int, ∃ (p107 : Option Addr) (n108 c109 : Nat), ldN h105 h0.next 0 2 = some ([(.int .u64 i106), (.slice p107 n108 c109)] : List Value) ∧
    (Q (.tuple #[(.agg #[(.int .u64 i106), (.slice p107 n108 c109)]), (.int .i64 171)]) h105))))))) ∨ (r93 = (.bool false) ∧
    (∃ (p110 : Option Addr) (n111 c112 : Nat), ld1 h94 h67.next 1 = some (.slice p110 n111 c112) ∧
    (∃ i113 : Int, ld1 h94 h86.next 0 = some (.int .i64 i113) ∧
    (∃ i114 : Int, ld1 h94 h7.next 0 = some (.int .u64 i114) ∧
    (derefP p110 fun b115 o116 => (((0 : Int) ≤ i113) ∧ ((i113 : Int) < ((n111 : Nat) : Int)) ∧
    (∃ h117 : AH, st1 h94 b115 ((o116 + Int.toNat i113 * 11) + 3) (.int .u64 i114) = some h117 ∧
    (∀ i118 : Int, i118 = IntKind.wrap .i64 (i78 + 1) → ∃ j77, j77 < k75 ∧ I74 i118 j77 h117))))))))))))))))))) ∧
    (¬ (i78 : Int) < ((n60 : Nat) : Int) → ∃ i119 : Int, ∃ (p120 : Option Addr) (n121 c122 : Nat), ldN h76 h67.next 0 2 = some ([(.int .u64 i119), (.slice p120 n121 c122)] : List Value) ∧
    ((List.length ([(.int .u64 i119), (.slice p120 n121 c122)] : List Value) = 2) ∧ ∃ h123 : AH, stN h76 h0.next 0 ([(.int .u64 i119), (.slice p120 n121 c122)] : List Value) = some h123 ∧
    (∃ i124 : Int, ∃ (p125 : Option Addr) (n126 c127 : Nat), ldN h123 h0.next 0 2 = some ([(.int .u64 i124), (.slice p125 n126 c127)] : List Value) ∧
    (Q (.tuple #[(.agg #[(.int .u64 i124), (.slice p125 n126 c127)]), (.int .i64 0)]) h123))))))))))))))))))))) ∨ (r28 = (.tuple #[(.agg #[(.int .u64 i30), (.string s31), (.bool b32), (.int .u64 i33), (.int .u64 i34), (.int .u64 i35), (.int .i64 i36), (.int .i64 i37), (.int .u64 i38), (.int .u32 i39), (.slice p40 n41 c42)]), (.bool false)]) ∧
    (∀ h128 : AH, h128 = h29.alloc (.cells ([(.int .u64 0), (.string (ByteArray.mk #[])), (.bool false), (.int .u64 0), (.int .u64 0), (.int .u64 0), (.int .i64 0), (.int .i64 0), (.int .u64 0), (.int .u32 0), (.slice none 0 0)] : List Value) 59 false) →
    (List.length ([(.int .u64 i30), (.string s31), (.bool b32), (.int .u64 i33), (.int .u64 i34), (.int .u64 i35), (.int .i64 i36), (.int .i64 i37), (.int .u64 i38), (.int .u32 i39), (.slice p40 n41 c42)] : List Value) = 11) ∧ ∃ h129 : AH, stN h128 h29.next 0 ([(.int .u64 i30), (.string s31), (.bool b32), (.int .u64 i33), (.int .u64 i34), (.int .u64 i35), (.int .i64 i36), (.int .i64 i37), (.int .u64 i38), (.int .u32 i39), (.slice p40 n41 c42)] : List Value) = some h129 ∧
    ((ld1 h17 h.next 1 = some (.slice p25 n26 c27)) ∧
    ((ld1 h23 h.next 1 = some (.slice p25 n26 c27)) ∧
    (∃ i130 : Int, ∃ (p131 : Option Addr) (n132 c133 : Nat), ldN h129 h.next 0 2 = some ([(.int .u64 i130), (.slice p131 n132 c133)] : List Value) ∧
    (Wf Try.prog K 35 [(.agg #[(.int .u64 i130), (.slice p131 n132 c133)])] h129 fun r134 h135 =>
    (∃ i136 : Int, ∃ (p137 : Option Addr) (n138 c139 : Nat), r134 = (.agg #[(.int .u64 i136), (.slice p137 n138 c139)]) ∧
    ((List.length ([(.int .u64 i136), (.slice p137 n138 c139)] : List Value) = 2) ∧ ∃ h140 : AH, stN h135 h0.next 0 ([(.int .u64 i136), (.slice p137 n138 c139)] : List Value) = some h140 ∧
    (∃ i141 : Int, ∃ (p142 : Option Addr) (n143 c144 : Nat), ldN h140 h0.next 0 2 = some ([(.int .u64 i141), (.slice p142 n143 c144)] : List Value) ∧
    (Q (.tuple #[(.agg #[(.int .u64 i141), (.slice p142 n143 c144)]), (.int .i64 174)]) h140))))))))))))))))))))))) ∧
    (¬ (i9 : Int) = 0 → ∃ i145 : Int, ∃ (p146 : Option Addr) (n147 c148 : Nat), ldN h7 h.next 0 2 = some ([(.int .u64 i145), (.slice p146 n147 c148)] : List Value) ∧
    (Wf Try.prog K 35 [(.agg #[(.int .u64 i145), (.slice p146 n147 c148)])] h7 fun r149 h150 =>
    (∃ i151 : Int, ∃ (p152 : Option Addr) (n153 c154 : Nat), r149 = (.agg #[(.int .u64 i151), (.slice p152 n153 c154)]) ∧
    ((List.length ([(.int .u64 i151), (.slice p152 n153 c154)] : List Value) = 2) ∧ ∃ h155 : AH, stN h150 h0.next 0 ([(.int .u64 i151), (.slice p152 n153 c154)] : List Value) = some h155 ∧
    (∃ i156 : Int, ∃ (p157 : Option Addr) (n158 c159 : Nat), ldN h155 h0.next 0 2 = some ([(.int .u64 i156), (.slice p157 n158 c159)] : List Value) ∧
    (Q (.tuple #[(.agg #[(.int .u64 i156), (.slice p157 n158 c159)]), (.int .i64 i9)]) h155)))))))))) :
    Wf Try.prog K 25 [(.agg #[(.int .u64 ia0_0), (.slice pa0_1 na0_1 ca0_1)]), (.string sa1)] h Q :=
  vcF_sound (hs := [(12, [(63, .int .i64 0)])]) hk (Eq.mpr (by kernel_rfl) H)
theorem vc_rule_Promote_1 {K : Xs} (hk : K 50 = none) (ia0_0 : Int) (sa0_1 : ByteArray) (ba0_2 : Bool) (ia0_3 : Int) (ia0_4 : Int) (ia0_5 : Int) (ia0_6 : Int) (ia0_7 : Int) (ia0_8 : Int) (ia0_9 : Int) (pa0_10 : Option Addr) (na0_10 ca0_10 : Nat) (pf0 : Option Addr) (pf1 : Option Addr) (pf2 : Option Addr) (h : AH) (Q : Value → AH → Prop) (H :
    ∀ h0 : AH, h0 = h.alloc (.cells ([(.int .u64 ia0_0), (.string sa0_1), (.bool ba0_2), (.int .u64 ia0_3), (.int .u64 ia0_4), (.int .u64 ia0_5), (.int .i64 ia0_6), (.int .i64 ia0_7), (.int .u64 ia0_8), (.int .u32 ia0_9), (.slice pa0_10 na0_10 ca0_10)] : List Value) 59 false) →
    ((ld1 h0 h.next 2 = some (.bool true) ∧
    (∃ i1 : Int, ld1 h0 h.next 3 = some (.int .u64 i1) ∧
    (derefP pf0 fun b2 o3 => (∃ i4 : Int, ld1 h0 b2 o3 = some (.int .u64 i4) ∧
    (((i1 : Int) = i4 → ∃ s5 : ByteArray, ld1 h0 h.next 1 = some (.string s5) ∧
    (derefP pf1 fun b6 o7 => (∃ (p8 : Option Addr) (n9 c10 : Nat), ld1 h0 b6 (o7 + 1) = some (.slice p8 n9 c10) ∧
    (derefP pf2 fun b11 o12 => (∃ i13 : Int, ld1 h0 b11 o12 = some (.int .i64 i13) ∧
    (derefP p8 fun b14 o15 => (((0 : Int) ≤ i13) ∧ ((i13 : Int) < ((n9 : Nat) : Int)) ∧
    (∃ s16 : ByteArray, ld1 h0 b14 ((o15 + Int.toNat i13 * 11) + 1) = some (.string s16) ∧
    ((s5 = s16 → Q (.bool true) h0) ∧
    (¬ s5 = s16 → Q (.bool false) h0)))))))))) ∧
    (¬ (i1 : Int) = i4 → Q (.bool false) h0)))))) ∨ (ld1 h0 h.next 2 = some (.bool false) ∧
    (Q (.bool false) h0)))) :
    Wf Try.prog K 50 [(.agg #[(.int .u64 ia0_0), (.string sa0_1), (.bool ba0_2), (.int .u64 ia0_3), (.int .u64 ia0_4), (.int .u64 ia0_5), (.int .i64 ia0_6), (.int .i64 ia0_7), (.int .u64 ia0_8), (.int .u32 ia0_9), (.slice pa0_10 na0_10 ca0_10)]), (.pointer pf0), (.pointer pf1), (.pointer pf2)] h Q :=
  vcF_sound (hs := []) hk (Eq.mpr (by kernel_rfl) H)
theorem vc_rule_Back {K : Xs} (hk : K 51 = none) (ia0_0 : Int) (pa0_1 : Option Addr) (na0_1 ca0_1 : Nat) (sa1 : ByteArray) (h : AH) (Q : Value → AH → Prop) (H :
    ∀ h0 : AH, h0 = h.alloc (.cells ([(.int .u64 ia0_0), (.slice pa0_1 na0_1 ca0_1)] : List Value) 49 false) →
    ∀ h1 : AH, h1 = h0.alloc (.cells ([(.int .u64 0), (.slice none 0 0)] : List Value) 49 false) →
    ∀ h2 : AH, h2 = h1.alloc (.cells ([(.int .u64 0), (.string (ByteArray.mk #[])), (.bool false), (.int .u64 0), (.int .u64 0), (.int .u64 0), (.int .i64 0), (.int .i64 0), (.int .u64 0), (.int .u32 0), (.slice none 0 0)] : List Value) 59 false) →
    ∃ i3 : Int, ∃ (p4 : Option Addr) (n5 c6 : Nat), ldN h2 h.next 0 2 = some ([(.int .u64 i3), (.slice p4 n5 c6)] : List Value) ∧
    (Wf Try.prog K 45 [(.agg #[(.int .u64 i3), (.slice p4 n5 c6)]), (.string sa1)] h2 fun r7 h8 =>
    (∃ i9 : Int, ∃ i10 : Int, r7 = (.tuple #[(.int .i64 i9), (.int .i64 i10)]) ∧
    (((i10 : Int) = 0 → ∃ (p11 : Option Addr) (n12 c13 : Nat), ld1 h8 h.next 1 = some (.slice p11 n12 c13) ∧
    (∃ (p14 : Option Addr) (n15 c16 : Nat), ld1 h8 h.next 1 = some (.slice p14 n15 c16) ∧
    (derefP p14 fun b17 o18 => (((0 : Int) ≤ i9) ∧ ((i9 : Int) < ((n15 : Nat) : Int)) ∧
    (∃ i19 : Int, ld1 h8 b17 ((o18 + Int.toNat i9 * 11) + 4) = some (.int .u64 i19) ∧
    (Wf Try.prog K 38 [(.slice p11 n12 c13), (.int .u64 i19)] h8 fun r20 h21 =>
    (∃ i22 : Int, ∃ s23 : ByteArray, ∃ b24 : Bool, ∃ i25 : Int, ∃ i26 : Int, ∃ i27 : Int, ∃ i28 : Int, ∃ i29 : Int, ∃ i30 : Int, ∃ i31 : Int, ∃ (p32 : Option Addr) (n33 c34 : Nat), ((r20 = (.tuple #[(.agg #[(.int .u64 i22), (.string s23), (.bool b24), (.int .u64 i25), (.int .u64 i26), (.int .u64 i27), (.int .i64 i28), (.int .i64 i29), (.int .u64 i30), (.int .u32 i31), (.slice p32 n33 c34)]), (.bool true)]) ∧
    (∀ h35 : AH, h35 = h21.alloc (.cells ([(.int .u64 0), (.string (ByteArray.mk #[])), (.bool false), (.int .u64 0), (.int .u64 0), (.int .u64 0), (.int .i64 0), (.int .i64 0), (.int .u64 0), (.int .u32 0), (.slice none 0 0)] : List Value) 59 false) →
    (List.length ([(.int .u64 i22), (.string s23), (.bool b24), (.int .u64 i25), (.int .u64 i26), (.int .u64 i27), (.int .i64 i28), (.int .i64 i29), (.int .u64 i30), (.int .u32 i31), (.slice p32 n33 c34)] : List Value) = 11) ∧ ∃ h36 : AH, stN h35 h21.next 0 ([(.int .u64 i22), (.string s23), (.bool b24), (.int .u64 i25), (.int .u64 i26), (.int .u64 i27), (.int .i64 i28), (.int .i64 i29), (.int .u64 i30), (.int .u32 i31), (.slice p32 n33 c34)] : List Value) = some h36 ∧
    (∃ i37 : Int, ∃ (p38 : Option Addr) (n39 c40 : Nat), ldN h36 h.next 0 2 = some ([(.int .u64 i37), (.slice p38 n39 c40)] : List Value) ∧
    (Wf Try.prog K 35 [(.agg #[(.int .u64 i37), (.slice p38 n39 c40)])] h36 fun r41 h42 =>
    (∃ i43 : Int, ∃ (p44 : Option Addr) (n45 c46 : Nat), r41 = (.agg #[(.int .u64 i43), (.slice p44 n45 c46)]) ∧
    (∀ h47 : AH, h47 = h42.alloc (.cells ([(.int .u64 0), (.slice none 0 0)] : List Value) 49 false) →
    (List.length ([(.int .u64 i43), (.slice p44 n45 c46)] : List Value) = 2) ∧ ∃ h48 : AH, stN h47 h42.next 0 ([(.int .u64 i43), (.slice p44 n45 c46)] : List Value) = some h48 ∧
    (∃ (p49 : Option Addr) (n50 c51 : Nat), ld1 h48 h42.next 1 = some (.slice p49 n50 c51) ∧
    (∃ i52 : Int, ∃ i53 : Int, ∃ i54 : Int, ldN h48 h21.next 7 3 = some ([(.int .i64 i52), (.int .u64 i53), (.int .u32 i54)] : List Value) ∧
    (derefP p49 fun b55 o56 => (((0 : Int) ≤ i9) ∧ ((i9 : Int) < ((n50 : Nat) : Int)) ∧
    ((List.length ([(.int .i64 i52), (.int .u64 i53), (.int .u32 i54)] : List Value) = 3) ∧ ∃ h57 : AH, stN h48 b55 ((o56 + Int.toNat i9 * 11) + 7) ([(.int .i64 i52), (.int .u64 i53), (.int .u32 i54)] : List Value) = some h57 ∧
    (∃ (p58 : Option Addr) (n59 c60 : Nat), ld1 h57 h42.next 1 = some (.slice p58 n59 c60) ∧
    (derefP p58 fun b61 o62 => (((0 : Int) ≤ i9) ∧ ((i9 : Int) < ((n59 : Nat) : Int)) ∧
    (∃ h63 : AH, st1 h57 b61 ((o62 + Int.toNat i9 * 11) + 10) (.slice none 0 0) = some h63 ∧
    ((ld1 h48 h42.next 1 = some (.slice p58 n59 c60)) ∧
    ((ld1 h57 h42.next 1 = some (.slice p58 n59 c60)) ∧
    (∃ (p64 : Option Addr) (n65 c66 : Nat), ld1 h63 h.next 1 = some (.slice p64 n65 c66) ∧
    (derefP p64 fun b67 o68 => (((0 : Int) ≤ i9) ∧ ((i9 : Int) < ((n65 : Nat) : Int)) ∧
    (∃ i69 : Int, ∃ s70 : ByteArray, ∃ b71 : Bool, ∃ i72 : Int, ∃ i73 : Int, ∃ i74 : Int, ∃ i75 : Int, ∃ i76 : Int, ∃ i77 : Int, ∃ i78 : Int, ∃ (p79 : Option Addr) (n80 c81 : Nat), ldN h63 b67 (o68 + Int.toNat i9 * 11) 11 = some ([(.int .u64 i69), (.string s70), (.bool b71), (.int .u64 i72), (.int .u64 i73), (.int .u64 i74), (.int .i64 i75), (.int .i64 i76), (.int .u64 i77), (.int .u32 i78), (.slice p79 n80 c81)] : List Value) ∧
    (Wf Try.prog K 44 [(.agg #[(.int .u64 i69), (.string s70), (.bool b71), (.int .u64 i72), (.int .u64 i73), (.int .u64 i74), (.int .i64 i75), (.int .i64 i76), (.int .u64 i77), (.int .u32 i78), (.slice p79 n80 c81)])] h63 fun r82 h83 =>
    (∃ i84 : Int, ∃ s85 : ByteArray, ∃ b86 : Bool, ∃ i87 : Int, ∃ i88 : Int, ∃ i89 : Int, ∃ i90 : Int, ∃ i91 : Int, ∃ i92 : Int, ∃ i93 : Int, ∃ (p94 : Option Addr) (n95 c96 : Nat), r82 = (.agg #[(.int .u64 i84), (.string s85), (.bool b86), (.int .u64 i87), (.int .u64 i88), (.int .u64 i89), (.int .i64 i90), (.int .i64 i91), (.int .u64 i92), (.int .u32 i93), (.slice p94 n95 c96)]) ∧
    (∃ i97 : Int, ∃ (p98 : Option Addr) (n99 c100 : Nat), ldN h83 h42.next 0 2 = some ([(.int .u64 i97), (.slice p98 n99 c100)] : List Value) ∧
    ((List.length ([(.int .u64 i97), (.slice p98 n99 c100)] : List Value) = 2) ∧ ∃ h101 : AH, stN h83 h0.next 0 ([(.int .u64 i97), (.slice p98 n99 c100)] : List Value) = some h101 ∧
    ((List.length ([(.int .u64 i84), (.string s85), (.bool b86), (.int .u64 i87), (.int .u64 i88), (.int .u64 i89), (.int .i64 i90), (.int .i64 i91), (.int .u64 i92), (.int .u32 i93), (.slice p94 n95 c96)] : List Value) = 11) ∧ ∃ h102 : AH, stN h101 h1.next 0 ([(.int .u64 i84), (.string s85), (.bool b86), (.int .u64 i87), (.int .u64 i88), (.int .u64 i89), (.int .i64 i90), (.int .i64 i91), (.int .u64 i92), (.int .u32 i93), (.slice p94 n95 c96)] : List Value) = some h102 ∧
    ((ldN h63 h42.next 0 2 = some ([(.int .u64 i97), (.slice p98 n99 c100)] : List Value)) ∧
    ((ldN h83 h42.next 0 2 = some ([(.int .u64 i97), (.slice p98 n99 c100)] : List Value)) ∧
    (∃ i103 : Int, ∃ (p104 : Option Addr) (n105 c106 : Nat), ldN h102 h0.next 0 2 = some ([(.int .u64 i103), (.slice p104 n105 c106)] : List Value) ∧
    (∃ i107 : Int, ∃ s108 : ByteArray, ∃ b109 : Bool, ∃ i110 : Int, ∃ i111 : Int, ∃ i112 : Int, ∃ i113 : Int, ∃ i114 : Int, ∃ i115 : Int, ∃ i116 : Int, ∃ (p117 : Option Addr) (n118 c119 : Nat), ldN h102 h1.next 0 11 = some ([(.int .u64 i107), (.string s108), (.bool b109), (.int .u64 i110), (.int .u64 i111), (.int .u64 i112), (.int .i64 i113), (.int .i64 i114), (.int .u64 i115), (.int .u32 i116), (.slice p117 n118 c119)] : List Value) ∧
    (Q (.tuple #[(.agg #[(.int .u64 i103), (.slice p104 n105 c106)]), (.agg #[(.int .u64 i107), (.string s108), (.bool b109), (.int .u64 i110), (.int .u64 i111), (.int .u64 i112), (.int .i64 i113), (.int .i64 i114), (.int .u64 i115), (.int .u32 i116), (.slice p117 n118 c119)]), (.int .i64 0)]) h102))))))))))))))))))))))))))))))) ∨ (r20 = (.tuple #[(.agg #[(.int .u64 i22), (.string s23), (.bool b24), (.int .u64 i25), (.int .u64 i26), (.int .u64 i27), (.int .i64 i28), (.int .i64 i29), (.int .u64 i30), (.int .u32 i31), (.slice p32 n33 c34)]), (.bool false)]) ∧
    (∀ h120 : AH, h120 = h21.alloc (.cells ([(.int .u64 0), (.string (ByteArray.mk #[])), (.bool false), (.int .u64 0), (.int .u64 0), (.int .u64 0), (.int .i64 0), (.int .i64 0), (.int .u64 0), (.int .u32 0), (.slice none 0 0)] : List Value) 59 false) →
    (List.length ([(.int .u64 i22), (.string s23), (.bool b24), (.int .u64 i25), (.int .u64 i26), (.int .u64 i27), (.int .i64 i28), (.int .i64 i29), (.int .u64 i30), (.int .u32 i31), (.slice p32 n33 c34)] : List Value) = 11) ∧ ∃ h121 : AH, stN h120 h21.next 0 ([(.int .u64 i22), (.string s23), (.bool b24), (.int .u64 i25), (.int .u64 i26), (.int .u64 i27), (.int .i64 i28), (.int .i64 i29), (.int .u64 i30), (.int .u32 i31), (.slice p32 n33 c34)] : List Value) = some h121 ∧
    (∃ i122 : Int, ∃ (p123 : Option Addr) (n124 c125 : Nat), ldN h121 h.next 0 2 = some ([(.int .u64 i122), (.slice p123 n124 c125)] : List Value) ∧
    (Wf Try.prog K 35 [(.agg #[(.int .u64 i122), (.slice p123 n124 c125)])] h121 fun r126 h127 =>
    (∃ i128 : Int, ∃ (p129 : Option Addr) (n130 c131 : Nat), r126 = (.agg #[(.int .u64 i128), (.slice p129 n130 c131)]) ∧
    ((List.length ([(.int .u64 i128), (.slice p129 n130 c131)] : List Value) = 2) ∧ ∃ h132 : AH, stN h127 h0.next 0 ([(.int .u64 i128), (.slice p129 n130 c131)] : List Value) = some h132 ∧
    ((List.length ([(.int .u64 0), (.string (ByteArray.mk #[])), (.bool false), (.int .u64 0), (.int .u64 0), (.int .u64 0), (.int .i64 0), (.int .i64 0), (.int .u64 0), (.int .u32 0), (.slice none 0 0)] : List Value) = 11) ∧ ∃ h133 : AH, stN h132 h1.next 0 ([(.int .u64 0), (.string (ByteArray.mk #[])), (.bool false), (.int .u64 0), (.int .u64 0), (.int .u64 0), (.int .i64 0), (.int .i64 0), (.int .u64 0), (.int .u32 0), (.slice none 0 0)] : List Value) = some h133 ∧
    (∃ i134 : Int, ∃ (p135 : Option Addr) (n136 c137 : Nat), ldN h133 h0.next 0 2 = some ([(.int .u64 i134), (.slice p135 n136 c137)] : List Value) ∧
    (∃ i138 : Int, ∃ s139 : ByteArray, ∃ b140 : Bool, ∃ i141 : Int, ∃ i142 : Int, ∃ i143 : Int, ∃ i144 : Int, ∃ i145 : Int, ∃ i146 : Int, ∃ i147 : Int, ∃ (p148 : Option Addr) (n149 c150 : Nat), ldN h133 h1.next 0 11 = some ([(.int .u64 i138), (.string s139), (.bool b140), (.int .u64 i141), (.int .u64 i142), (.int .u64 i143), (.int .i64 i144), (.int .i64 i145), (.int .u64 i146), (.int .u32 i147), (.slice p148 n149 c150)] : List Value) ∧
    (Q (.tuple #[(.agg #[(.int .u64 i134), (.slice p135 n136 c137)]), (.agg #[(.int .u64 i138), (.string s139), (.bool b140), (.int .u64 i141), (.int .u64 i142), (.int .u64 i143), (.int .i64 i144), (.int .i64 i145), (.int .u64 i146), (.int .u32 i147), (.slice p148 n149 c150)]), (.int .i64 174)]) h133)))))))))))))))))) ∧
    (¬ (i10 : Int) = 0 → ∃ i151 : Int, ∃ (p152 : Option Addr) (n153 c154 : Nat), ldN h8 h.next 0 2 = some ([(.int .u64 i151), (.slice p152 n153 c154)] : List Value) ∧
    (Wf Try.prog K 35 [(.agg #[(.int .u64 i151), (.slice p152 n153 c154)])] h8 fun r155 h156 =>
    (∃ i157 : Int, ∃ (p158 : Option Addr) (n159 c160 : Nat), r155 = (.agg #[(.int .u64 i157), (.slice p158 n159 c160)]) ∧
    ((List.length ([(.int .u64 i157), (.slice p158 n159 c160)] : List Value) = 2) ∧ ∃ h161 : AH, stN h156 h0.next 0 ([(.int .u64 i157), (.slice p158 n159 c160)] : List Value) = some h161 ∧
    ((List.length ([(.int .u64 0), (.string (ByteArray.mk #[])), (.bool false), (.int .u64 0), (.int .u64 0), (.int .u64 0), (.int .i64 0), (.int .i64 0), (.int .u64 0), (.int .u32 0), (.slice none 0 0)] : List Value) = 11) ∧ ∃ h162 : AH, stN h161 h1.next 0 ([(.int .u64 0), (.string (ByteArray.mk #[])), (.bool false), (.int .u64 0), (.int .u64 0), (.int .u64 0), (.int .i64 0), (.int .i64 0), (.int .u64 0), (.int .u32 0), (.slice none 0 0)] : List Value) = some h162 ∧
    (∃ i163 : Int, ∃ (p164 : Option Addr) (n165 c166 : Nat), ldN h162 h0.next 0 2 = some ([(.int .u64 i163), (.slice p164 n165 c166)] : List Value) ∧
    (∃ i167 : Int, ∃ s168 : ByteArray, ∃ b169 : Bool, ∃ i170 : Int, ∃ i171 : Int, ∃ i172 : Int, ∃ i173 : Int, ∃ i174 : Int, ∃ i175 : Int, ∃ i176 : Int, ∃ (p177 : Option Addr) (n178 c179 : Nat), ldN h162 h1.next 0 11 = some ([(.int .u64 i167), (.string s168), (.bool b169), (.int .u64 i170), (.int .u64 i171), (.int .u64 i172), (.int .i64 i173), (.int .i64 i174), (.int .u64 i175), (.int .u32 i176), (.slice p177 n178 c179)] : List Value) ∧
    (Q (.tuple #[(.agg #[(.int .u64 i163), (.slice p164 n165 c166)]), (.agg #[(.int .u64 i167), (.string s168), (.bool b169), (.int .u64 i170), (.int .u64 i171), (.int .u64 i172), (.int .i64 i173), (.int .i64 i174), (.int .u64 i175), (.int .u32 i176), (.slice p177 n178 c179)]), (.int .i64 i10)]) h162)))))))))))) :
    Wf Try.prog K 51 [(.agg #[(.int .u64 ia0_0), (.slice pa0_1 na0_1 ca0_1)]), (.string sa1)] h Q :=
  vcF_sound (hs := []) hk (Eq.mpr (by kernel_rfl) H)
theorem vc_rule_DropVol {K : Xs} (hk : K 53 = none) (ia0_0 : Int) (pa0_1 : Option Addr) (na0_1 ca0_1 : Nat) (sa1 : ByteArray) (h : AH) (Q : Value → AH → Prop) (H :
    ∀ h0 : AH, h0 = h.alloc (.cells ([(.int .u64 ia0_0), (.slice pa0_1 na0_1 ca0_1)] : List Value) 49 false) →
    ∀ h1 : AH, h1 = h0.alloc (.cells ([(.int .u64 0), (.slice none 0 0)] : List Value) 49 false) →
    ∀ h2 : AH, h2 = h1.alloc (.cells ([(.int .u64 0), (.string (ByteArray.mk #[])), (.bool false), (.int .u64 0), (.int .u64 0), (.int .u64 0), (.int .i64 0), (.int .i64 0), (.int .u64 0), (.int .u32 0), (.slice none 0 0)] : List Value) 59 false) →
    ∃ i3 : Int, ∃ (p4 : Option Addr) (n5 c6 : Nat), ldN h2 h.next 0 2 = some ([(.int .u64 i3), (.slice p4 n5 c6)] : List Value) ∧
    (Wf Try.prog K 45 [(.agg #[(.int .u64 i3), (.slice p4 n5 c6)]), (.string sa1)] h2 fun r7 h8 =>
    (∃ i9 : Int, ∃ i10 : Int, r7 = (.tuple #[(.int .i64 i9), (.int .i64 i10)]) ∧
    (((i10 : Int) = 0 → ∃ (p11 : Option Addr) (n12 c13 : Nat), ld1 h8 h.next 1 = some (.slice p11 n12 c13) ∧
    (∃ (p14 : Option Addr) (n15 c16 : Nat), ld1 h8 h.next 1 = some (.slice p14 n15 c16) ∧
    (derefP p14 fun b17 o18 => (((0 : Int) ≤ i9) ∧ ((i9 : Int) < ((n15 : Nat) : Int)) ∧
    (∃ i19 : Int, ld1 h8 b17 (o18 + Int.toNat i9 * 11) = some (.int .u64 i19) ∧
    (Wf Try.prog K 46 [(.slice p11 n12 c13), (.int .u64 i19)] h8 fun r20 h21 =>
    (∃ (p22 : Option Addr) (n23 c24 : Nat), r20 = (.slice p22 n23 c24) ∧
    (((0 : Int) < ((n23 : Nat) : Int) → ∃ i25 : Int, ∃ (p26 : Option Addr) (n27 c28 : Nat), ldN h21 h.next 0 2 = some ([(.int .u64 i25), (.slice p26 n27 c28)] : List Value) ∧
    (Wf Try.prog K 35 [(.agg #[(.int .u64 i25), (.slice p26 n27 c28)])] h21 fun r29 h30 =>
    (∃ i31 : Int, ∃ (p32 : Option Addr) (n33 c34 : Nat), r29 = (.agg #[(.int .u64 i31), (.slice p32 n33 c34)]) ∧
    ((List.length ([(.int .u64 i31), (.slice p32 n33 c34)] : List Value) = 2) ∧ ∃ h35 : AH, stN h30 h0.next 0 ([(.int .u64 i31), (.slice p32 n33 c34)] : List Value) = some h35 ∧
    ((List.length ([(.int .u64 0), (.string (ByteArray.mk #[])), (.bool false), (.int .u64 0), (.int .u64 0), (.int .u64 0), (.int .i64 0), (.int .i64 0), (.int .u64 0), (.int .u32 0), (.slice none 0 0)] : List Value) = 11) ∧ ∃ h36 : AH, stN h35 h1.next 0 ([(.int .u64 0), (.string (ByteArray.mk #[])), (.bool false), (.int .u64 0), (.int .u64 0), (.int .u64 0), (.int .i64 0), (.int .i64 0), (.int .u64 0), (.int .u32 0), (.slice none 0 0)] : List Value) = some h36 ∧
    (∃ i37 : Int, ∃ (p38 : Option Addr) (n39 c40 : Nat), ldN h36 h0.next 0 2 = some ([(.int .u64 i37), (.slice p38 n39 c40)] : List Value) ∧
    (∃ i41 : Int, ∃ s42 : ByteArray, ∃ b43 : Bool, ∃ i44 : Int, ∃ i45 : Int, ∃ i46 : Int, ∃ i47 : Int, ∃ i48 : Int, ∃ i49 : Int, ∃ i50 : Int, ∃ (p51 : Option Addr) (n52 c53 : Nat), ldN h36 h1.next 0 11 = some ([(.int .u64 i41), (.string s42), (.bool b43), (.int .u64 i44), (.int .u64 i45), (.int .u64 i46), (.int .i64 i47), (.int .i64 i48), (.int .u64 i49), (.int .u32 i50), (.slice p51 n52 c53)] : List Value) ∧
    (Q (.tuple #[(.agg #[(.int .u64 i37), (.slice p38 n39 c40)]), (.agg #[(.int .u64 i41), (.string s42), (.bool b43), (.int .u64 i44), (.int .u64 i45), (.int .u64 i46), (.int .i64 i47), (.int .i64 i48), (.int .u64 i49), (.int .u32 i50), (.slice p51 n52 c53)]), (.int .i64 173)]) h36)))))))) ∧
    (¬ (0 : Int) < ((n23 : Nat) : Int) → ∃ i54 : Int, ∃ (p55 : Option Addr) (n56 c57 : Nat), ldN h21 h.next 0 2 = some ([(.int .u64 i54), (.slice p55 n56 c57)] : List Value) ∧
    (Wf Try.prog K 35 [(.agg #[(.int .u64 i54), (.slice p55 n56 c57)])] h21 fun r58 h59 =>
    (∃ i60 : Int, ∃ (p61 : Option Addr) (n62 c63 : Nat), r58 = (.agg #[(.int .u64 i60), (.slice p61 n62 c63)]) ∧
    (∀ h64 : AH, h64 = h59.alloc (.cells ([(.int .u64 0), (.slice none 0 0)] : List Value) 49 false) →
    (List.length ([(.int .u64 i60), (.slice p61 n62 c63)] : List Value) = 2) ∧ ∃ h65 : AH, stN h64 h59.next 0 ([(.int .u64 i60), (.slice p61 n62 c63)] : List Value) = some h65 ∧
    (∃ (p66 : Option Addr) (n67 c68 : Nat), ld1 h65 h59.next 1 = some (.slice p66 n67 c68) ∧
    (∀ i69 : Int, i69 = IntKind.wrap .i64 (i9 + 1) → Wf Try.prog K 61 [(.slice p66 n67 c68), (.int .i64 i9), (.int .i64 i69)] h65 fun r70 h71 =>
    (∃ (p72 : Option Addr) (n73 c74 : Nat), r70 = (.slice p72 n73 c74) ∧
    (∃ h75 : AH, st1 h71 h59.next 1 (.slice p72 n73 c74) = some h75 ∧
    (∃ (p76 : Option Addr) (n77 c78 : Nat), ld1 h75 h.next 1 = some (.slice p76 n77 c78) ∧
    (derefP p76 fun b79 o80 => (((0 : Int) ≤ i9) ∧ ((i9 : Int) < ((n77 : Nat) : Int)) ∧
    (∃ i81 : Int, ∃ s82 : ByteArray, ∃ b83 : Bool, ∃ i84 : Int, ∃ i85 : Int, ∃ i86 : Int, ∃ i87 : Int, ∃ i88 : Int, ∃ i89 : Int, ∃ i90 : Int, ∃ (p91 : Option Addr) (n92 c93 : Nat), ldN h75 b79 (o80 + Int.toNat i9 * 11) 11 = some ([(.int .u64 i81), (.string s82), (.bool b83), (.int .u64 i84), (.int .u64 i85), (.int .u64 i86), (.int .i64 i87), (.int .i64 i88), (.int .u64 i89), (.int .u32 i90), (.slice p91 n92 c93)] : List Value) ∧
    (Wf Try.prog K 44 [(.agg #[(.int .u64 i81), (.string s82), (.bool b83), (.int .u64 i84), (.int .u64 i85), (.int .u64 i86), (.int .i64 i87), (.int .i64 i88), (.int .u64 i89), (.int .u32 i90), (.slice p91 n92 c93)])] h75 fun r94 h95 =>
    (∃ i96 : Int, ∃ s97 : ByteArray, ∃ b98 : Bool, ∃ i99 : Int, ∃ i100 : Int, ∃ i101 : Int, ∃ i102 : Int, ∃ i103 : Int, ∃ i104 : Int, ∃ i105 : Int, ∃ (p106 : Option Addr) (n107 c108 : Nat), r94 = (.agg #[(.int .u64 i96), (.string s97), (.bool b98), (.int .u64 i99), (.int .u64 i100), (.int .u64 i101), (.int .i64 i102), (.int .i64 i103), (.int .u64 i104), (.int .u32 i105), (.slice p106 n107 c108)]) ∧
    (∃ i109 : Int, ∃ (p110 : Option Addr) (n111 c112 : Nat), ldN h95 h59.next 0 2 = some ([(.int .u64 i109), (.slice p110 n111 c112)] : List Value) ∧
    ((List.length ([(.int .u64 i109), (.slice p110 n111 c112)] : List Value) = 2) ∧ ∃ h113 : AH, stN h95 h0.next 0 ([(.int .u64 i109), (.slice p110 n111 c112)] : List Value) = some h113 ∧
    ((List.length ([(.int .u64 i96), (.string s97), (.bool b98), (.int .u64 i99), (.int .u64 i100), (.int .u64 i101), (.int .i64 i102), (.int .i64 i103), (.int .u64 i104), (.int .u32 i105), (.slice p106 n107 c108)] : List Value) = 11) ∧ ∃ h114 : AH, stN h113 h1.next 0 ([(.int .u64 i96), (.string s97), (.bool b98), (.int .u64 i99), (.int .u64 i100), (.int .u64 i101), (.int .i64 i102), (.int .i64 i103), (.int .u64 i104), (.int .u32 i105), (.slice p106 n107 c108)] : List Value) = some h114 ∧
    ((ldN h75 h59.next 0 2 = some ([(.int .u64 i109), (.slice p110 n111 c112)] : List Value)) ∧
    ((ldN h95 h59.next 0 2 = some ([(.int .u64 i109), (.slice p110 n111 c112)] : List Value)) ∧
    (∃ i115 : Int, ∃ (p116 : Option Addr) (n117 c118 : Nat), ldN h114 h0.next 0 2 = some ([(.int .u64 i115), (.slice p116 n117 c118)] : List Value) ∧
    (∃ i119 : Int, ∃ s120 : ByteArray, ∃ b121 : Bool, ∃ i122 : Int, ∃ i123 : Int, ∃ i124 : Int, ∃ i125 : Int, ∃ i126 : Int, ∃ i127 : Int, ∃ i128 : Int, ∃ (p129 : Option Addr) (n130 c131 : Nat), ldN h114 h1.next 0 11 = some ([(.int .u64 i119), (.string s120), (.bool b121), (.int .u64 i122), (.int .u64 i123), (.int .u64 i124), (.int .i64 i125), (.int .i64 i126), (.int .u64 i127), (.int .u32 i128), (.slice p129 n130 c131)] : List Value) ∧
    (Q (.tuple #[(.agg #[(.int .u64 i115), (.slice p116 n117 c118)]), (.agg #[(.int .u64 i119), (.string s120), (.bool b121), (.int .u64 i122), (.int .u64 i123), (.int .u64 i124), (.int .i64 i125), (.int .i64 i126), (.int .u64 i127), (.int .u32 i128), (.slice p129 n130 c131)]), (.int .i64 0)]) h114)))))))))))))))))))))))))))))) ∧
    (¬ (i10 : Int) = 0 → ∃ i132 : Int, ∃ (p133 : Option Addr) (n134 c135 : Nat), ldN h8 h.next 0 2 = some ([(.int .u64 i132), (.slice p133 n134 c135)] : List Value) ∧
    (Wf Try.prog K 35 [(.agg #[(.int .u64 i132), (.slice p133 n134 c135)])] h8 fun r136 h137 =>
    (∃ i138 : Int, ∃ (p139 : Option Addr) (n140 c141 : Nat), r136 = (.agg #[(.int .u64 i138), (.slice p139 n140 c141)]) ∧
    ((List.length ([(.int .u64 i138), (.slice p139 n140 c141)] : List Value) = 2) ∧ ∃ h142 : AH, stN h137 h0.next 0 ([(.int .u64 i138), (.slice p139 n140 c141)] : List Value) = some h142 ∧
    ((List.length ([(.int .u64 0), (.string (ByteArray.mk #[])), (.bool false), (.int .u64 0), (.int .u64 0), (.int .u64 0), (.int .i64 0), (.int .i64 0), (.int .u64 0), (.int .u32 0), (.slice none 0 0)] : List Value) = 11) ∧ ∃ h143 : AH, stN h142 h1.next 0 ([(.int .u64 0), (.string (ByteArray.mk #[])), (.bool false), (.int .u64 0), (.int .u64 0), (.int .u64 0), (.int .i64 0), (.int .i64 0), (.int .u64 0), (.int .u32 0), (.slice none 0 0)] : List Value) = some h143 ∧
    (∃ i144 : Int, ∃ (p145 : Option Addr) (n146 c147 : Nat), ldN h143 h0.next 0 2 = some ([(.int .u64 i144), (.slice p145 n146 c147)] : List Value) ∧
    (∃ i148 : Int, ∃ s149 : ByteArray, ∃ b150 : Bool, ∃ i151 : Int, ∃ i152 : Int, ∃ i153 : Int, ∃ i154 : Int, ∃ i155 : Int, ∃ i156 : Int, ∃ i157 : Int, ∃ (p158 : Option Addr) (n159 c160 : Nat), ldN h143 h1.next 0 11 = some ([(.int .u64 i148), (.string s149), (.bool b150), (.int .u64 i151), (.int .u64 i152), (.int .u64 i153), (.int .i64 i154), (.int .i64 i155), (.int .u64 i156), (.int .u32 i157), (.slice p158 n159 c160)] : List Value) ∧
    (Q (.tuple #[(.agg #[(.int .u64 i144), (.slice p145 n146 c147)]), (.agg #[(.int .u64 i148), (.string s149), (.bool b150), (.int .u64 i151), (.int .u64 i152), (.int .u64 i153), (.int .i64 i154), (.int .i64 i155), (.int .u64 i156), (.int .u32 i157), (.slice p158 n159 c160)]), (.int .i64 i10)]) h143)))))))))))) :
    Wf Try.prog K 53 [(.agg #[(.int .u64 ia0_0), (.slice pa0_1 na0_1 ca0_1)]), (.string sa1)] h Q :=
  vcF_sound (hs := []) hk (Eq.mpr (by kernel_rfl) H)
theorem vc_rule_DropSnap {K : Xs} (hk : K 54 = none) (ia0_0 : Int) (pa0_1 : Option Addr) (na0_1 ca0_1 : Nat) (sa1 : ByteArray) (h : AH) (Q : Value → AH → Prop) (H :
    ∀ h0 : AH, h0 = h.alloc (.cells ([(.int .u64 ia0_0), (.slice pa0_1 na0_1 ca0_1)] : List Value) 49 false) →
    ∀ h1 : AH, h1 = h0.alloc (.cells ([(.int .u64 0), (.slice none 0 0)] : List Value) 49 false) →
    Wf Try.prog K 42 [(.string sa1)] h1 fun r2 h3 =>
    (∃ s4 : ByteArray, ∃ s5 : ByteArray, ∃ i6 : Int, r2 = (.tuple #[(.string s4), (.string s5), (.int .i64 i6)]) ∧
    (((i6 : Int) = 0 → ∃ i7 : Int, ∃ (p8 : Option Addr) (n9 c10 : Nat), ldN h3 h.next 0 2 = some ([(.int .u64 i7), (.slice p8 n9 c10)] : List Value) ∧
    (Wf Try.prog K 36 [(.agg #[(.int .u64 i7), (.slice p8 n9 c10)]), (.string sa1)] h3 fun r11 h12 =>
    (∃ i13 : Int, r11 = (.int .i64 i13) ∧
    (((i13 : Int) < 0 → ∃ i14 : Int, ∃ (p15 : Option Addr) (n16 c17 : Nat), ldN h12 h.next 0 2 = some ([(.int .u64 i14), (.slice p15 n16 c17)] : List Value) ∧
    (Wf Try.prog K 35 [(.agg #[(.int .u64 i14), (.slice p15 n16 c17)])] h12 fun r18 h19 =>
    (∃ i20 : Int, ∃ (p21 : Option Addr) (n22 c23 : Nat), r18 = (.agg #[(.int .u64 i20), (.slice p21 n22 c23)]) ∧
    ((List.length ([(.int .u64 i20), (.slice p21 n22 c23)] : List Value) = 2) ∧ ∃ h24 : AH, stN h19 h0.next 0 ([(.int .u64 i20), (.slice p21 n22 c23)] : List Value) = some h24 ∧
    (∃ i25 : Int, ∃ (p26 : Option Addr) (n27 c28 : Nat), ldN h24 h0.next 0 2 = some ([(.int .u64 i25), (.slice p26 n27 c28)] : List Value) ∧
    (Q (.tuple #[(.agg #[(.int .u64 i25), (.slice p26 n27 c28)]), (.slice none 0 0), (.int .i64 172)]) h24)))))) ∧
    (¬ (i13 : Int) < 0 → ∃ (p29 : Option Addr) (n30 c31 : Nat), ld1 h12 h.next 1 = some (.slice p29 n30 c31) ∧
    (derefP p29 fun b32 o33 => (((0 : Int) ≤ i13) ∧ ((i13 : Int) < ((n30 : Nat) : Int)) ∧
    (∃ (p34 : Option Addr) (n35 c36 : Nat), ld1 h12 h.next 1 = some (.slice p34 n35 c36) ∧
    (∃ i37 : Int, ld1 h12 b32 (o33 + Int.toNat i13 * 11) = some (.int .u64 i37) ∧
    (Wf Try.prog K 62 [(.slice p34 n35 c36), (.int .u64 i37)] h12 fun r38 h39 =>
    (∃ (p40 : Option Addr) (n41 c42 : Nat), r38 = (.slice p40 n41 c42) ∧
    (((0 : Int) < ((n41 : Nat) : Int) → ∃ i43 : Int, ∃ (p44 : Option Addr) (n45 c46 : Nat), ldN h39 h.next 0 2 = some ([(.int .u64 i43), (.slice p44 n45 c46)] : List Value) ∧
    (Wf Try.prog K 35 [(.agg #[(.int .u64 i43), (.slice p44 n45 c46)])] h39 fun r47 h48 =>
    (∃ i49 : Int, ∃ (p50 : Option Addr) (n51 c52 : Nat), r47 = (.agg #[(.int .u64 i49), (.slice p50 n51 c52)]) ∧
    ((List.length ([(.int .u64 i49), (.slice p50 n51 c52)] : List Value) = 2) ∧ ∃ h53 : AH, stN h48 h0.next 0 ([(.int .u64 i49), (.slice p50 n51 c52)] : List Value) = some h53 ∧
    (∃ i54 : Int, ∃ (p55 : Option Addr) (n56 c57 : Nat), ldN h53 h0.next 0 2 = some ([(.int .u64 i54), (.slice p55 n56 c57)] : List Value) ∧
    (Q (.tuple #[(.agg #[(.int .u64 i54), (.slice p55 n56 c57)]), (.slice none 0 0), (.int .i64 173)]) h53)))))) ∧
    (¬ (0 : Int) < ((n41 : Nat) : Int) → ∃ (p58 : Option Addr) (n59 c60 : Nat), ld1 h39 h.next 1 = some (.slice p58 n59 c60) ∧
    (∃ i61 : Int, ld1 h39 b32 (o33 + Int.toNat i13 * 11) = some (.int .u64 i61) ∧
    (Wf Try.prog K 63 [(.slice p58 n59 c60), (.int .u64 i61)] h39 fun r62 h63 =>
    (∃ i64 : Int, r62 = (.int .u64 i64) ∧
    (∃ (p65 : Option Addr) (n66 c67 : Nat), ld1 h63 h.next 1 = some (.slice p65 n66 c67) ∧
    (Wf Try.prog K 48 [(.slice p65 n66 c67), (.int .u64 i64)] h63 fun r68 h69 =>
    (∃ i70 : Int, r68 = (.int .i64 i70) ∧
    ((ld1 h39 h.next 1 = some (.slice p65 n66 c67)) ∧
    ((ld1 h63 h.next 1 = some (.slice p65 n66 c67)) ∧
    (((i70 : Int) < 0 → ∃ i71 : Int, ∃ (p72 : Option Addr) (n73 c74 : Nat), ldN h69 h.next 0 2 = some ([(.int .u64 i71), (.slice p72 n73 c74)] : List Value) ∧
    (Wf Try.prog K 35 [(.agg #[(.int .u64 i71), (.slice p72 n73 c74)])] h69 fun r75 h76 =>
    (∃ i77 : Int, ∃ (p78 : Option Addr) (n79 c80 : Nat), r75 = (.agg #[(.int .u64 i77), (.slice p78 n79 c80)]) ∧
    ((List.length ([(.int .u64 i77), (.slice p78 n79 c80)] : List Value) = 2) ∧ ∃ h81 : AH, stN h76 h0.next 0 ([(.int .u64 i77), (.slice p78 n79 c80)] : List Value) = some h81 ∧
    (∃ i82 : Int, ∃ (p83 : Option Addr) (n84 c85 : Nat), ldN h81 h0.next 0 2 = some ([(.int .u64 i82), (.slice p83 n84 c85)] : List Value) ∧
    (Q (.tuple #[(.agg #[(.int .u64 i82), (.slice p83 n84 c85)]), (.slice none 0 0), (.int .i64 172)]) h81)))))) ∧
    (¬ (i70 : Int) < 0 → ∃ (p86 : Option Addr) (n87 c88 : Nat), ld1 h69 h.next 1 = some (.slice p86 n87 c88) ∧
    (∃ i89 : Int, ld1 h69 b32 (o33 + Int.toNat i13 * 11) = some (.int .u64 i89) ∧
    (Wf Try.prog K 43 [(.slice p86 n87 c88), (.int .u64 i89)] h69 fun r90 h91 =>
    (∃ i92 : Int, r90 = (.int .u64 i92) ∧
    (∃ (p93 : Option Addr) (n94 c95 : Nat), ld1 h91 h.next 1 = some (.slice p93 n94 c95) ∧
    (derefP p93 fun b96 o97 => (((0 : Int) ≤ i70) ∧ ((i70 : Int) < ((n94 : Nat) : Int)) ∧
    (∃ (p98 : Option Addr) (n99 c100 : Nat), ld1 h91 b96 ((o97 + Int.toNat i70 * 11) + 10) = some (.slice p98 n99 c100) ∧
    (Wf Try.prog K 64 [(.slice p98 n99 c100), (.int .u64 i92)] h91 fun r101 h102 =>
    (∃ (p103 : Option Addr) (n104 c105 : Nat), ∃ (p106 : Option Addr) (n107 c108 : Nat), r101 = (.tuple #[(.slice p103 n104 c105), (.slice p106 n107 c108)]) ∧
    ((ld1 h69 h.next 1 = some (.slice p93 n94 c95)) ∧
    ((ld1 h91 h.next 1 = some (.slice p93 n94 c95)) ∧
    ((ld1 h69 b96 ((o97 + Int.toNat i70 * 11) + 10) = some (.slice p98 n99 c100)) ∧
    ((ld1 h91 b96 ((o97 + Int.toNat i70 * 11) + 10) = some (.slice p98 n99 c100)) ∧
    (∃ (p109 : Option Addr) (n110 c111 : Nat), ld1 h102 b32 ((o33 + Int.toNat i13 * 11) + 10) = some (.slice p109 n110 c111) ∧
    (Wf Try.prog K 65 [(.slice p103 n104 c105), (.slice p109 n110 c111)] h102 fun r112 h113 =>
    (∃ (p114 : Option Addr) (n115 c116 : Nat), ∃ i117 : Int, r112 = (.tuple #[(.slice p114 n115 c116), (.int .i64 i117)]) ∧
    (((i117 : Int) = 0 → ((4000 : Int) < ((n115 : Nat) : Int) → ∃ i118 : Int, ∃ (p119 : Option Addr) (n120 c121 : Nat), ldN h113 h.next 0 2 = some ([(.int .u64 i118), (.slice p119 n120 c121)] : List Value) ∧
    (Wf Try.prog K 35 [(.agg #[(.int .u64 i118), (.slice p119 n120 c121)])] h113 fun r122 h123 =>
    (∃ i124 : Int, ∃ (p125 : Option Addr) (n126 c127 : Nat), r122 = (.agg #[(.int .u64 i124), (.slice p125 n126 c127)]) ∧
    ((List.length ([(.int .u64 i124), (.slice p125 n126 c127)] : List Value) = 2) ∧ ∃ h128 : AH, stN h123 h0.next 0 ([(.int .u64 i124), (.slice p125 n126 c127)] : List Value) = some h128 ∧
    (∃ i129 : Int, ∃ (p130 : Option Addr) (n131 c132 : Nat), ldN h128 h0.next 0 2 = some ([(.int .u64 i129), (.slice p130 n131 c132)] : List Value) ∧
    (Q (.tuple #[(.agg #[(.int .u64 i129), (.slice p130 n131 c132)]), (.slice none 0 0), (.int .i64 131)]) h128)))))) ∧
    (¬ (4000 : Int) < ((n115 : Nat) : Int) → ∃ i133 : Int, ∃ (p134 : Option Addr) (n135 c136 : Nat), ldN h113 h.next 0 2 = some ([(.int .u64 i133), (.slice p134 n135 c136)] : List Value) ∧
    (Wf Try.prog K 35 [(.agg #[(.int .u64 i133), (.slice p134 n135 c136)])] h113 fun r137 h138 =>
    (∃ i139 : Int, ∃ (p140 : Option Addr) (n141 c142 : Nat), r137 = (.agg #[(.int .u64 i139), (.slice p140 n141 c142)]) ∧
    (∀ h143 : AH, h143 = h138.alloc (.cells ([(.int .u64 0), (.slice none 0 0)] : List Value) 49 false) →
    (List.length ([(.int .u64 i139), (.slice p140 n141 c142)] : List Value) = 2) ∧ ∃ h144 : AH, stN h143 h138.next 0 ([(.int .u64 i139), (.slice p140 n141 c142)] : List Value) = some h144 ∧
    (∃ (p145 : Option Addr) (n146 c147 : Nat), ld1 h144 h138.next 1 = some (.slice p145 n146 c147) ∧
    (∃ i148 : Int, ld1 h144 b32 ((o33 + Int.toNat i13 * 11) + 4) = some (.int .u64 i148) ∧
    (derefP p145 fun b149 o150 => (((0 : Int) ≤ i70) ∧ ((i70 : Int) < ((n146 : Nat) : Int)) ∧
    (∃ h151 : AH, st1 h144 b149 ((o150 + Int.toNat i70 * 11) + 10) (.slice p114 n115 c116) = some h151 ∧
    (∃ (p152 : Option Addr) (n153 c154 : Nat), ld1 h151 h138.next 1 = some (.slice p152 n153 c154) ∧
    (derefP p152 fun b155 o156 => (((0 : Int) ≤ i70) ∧ ((i70 : Int) < ((n153 : Nat) : Int)) ∧
    (∃ h157 : AH, st1 h151 b155 ((o156 + Int.toNat i70 * 11) + 4) (.int .u64 i148) = some h157 ∧
    ((ld1 h144 h138.next 1 = some (.slice p152 n153 c154)) ∧
    ((ld1 h151 h138.next 1 = some (.slice p152 n153 c154)) ∧
    (∃ (p158 : Option Addr) (n159 c160 : Nat), ld1 h157 h138.next 1 = some (.slice p158 n159 c160) ∧
    (∀ i161 : Int, i161 = IntKind.wrap .i64 (i13 + 1) → Wf Try.prog K 61 [(.slice p158 n159 c160), (.int .i64 i13), (.int .i64 i161)] h157 fun r162 h163 =>
    (∃ (p164 : Option Addr) (n165 c166 : Nat), r162 = (.slice p164 n165 c166) ∧
    (∃ h167 : AH, st1 h163 h138.next 1 (.slice p164 n165 c166) = some h167 ∧
    (∃ i168 : Int, ∃ (p169 : Option Addr) (n170 c171 : Nat), ldN h167 h138.next 0 2 = some ([(.int .u64 i168), (.slice p169 n170 c171)] : List Value) ∧
    ((List.length ([(.int .u64 i168), (.slice p169 n170 c171)] : List Value) = 2) ∧ ∃ h172 : AH, stN h167 h0.next 0 ([(.int .u64 i168), (.slice p169 n170 c171)] : List Value) = some h172 ∧
    (∃ i173 : Int, ∃ (p174 : Option Addr) (n175 c176 : Nat), ldN h172 h0.next 0 2 = some ([(.int .u64 i173), (.slice p174 n175 c176)] : List Value) ∧
    (Q (.tuple #[(.agg #[(.int .u64 i173), (.slice p174 n175 c176)]), (.slice p106 n107 c108), (.int .i64 0)]) h172)))))))))))))))))))))))) ∧
    (¬ (i117 : Int) = 0 → ∃ i177 : Int, ∃ (p178 : Option Addr) (n179 c180 : Nat), ldN h113 h.next 0 2 = some ([(.int .u64 i177), (.slice p178 n179 c180)] : List Value) ∧
    (Wf Try.prog K 35 [(.agg #[(.int .u64 i177), (.slice p178 n179 c180)])] h113 fun r181 h182 =>
    (∃ i183 : Int, ∃ (p184 : Option Addr) (n185 c186 : Nat), r181 = (.agg #[(.int .u64 i183), (.slice p184 n185 c186)]) ∧
    ((List.length ([(.int .u64 i183), (.slice p184 n185 c186)] : List Value) = 2) ∧ ∃ h187 : AH, stN h182 h0.next 0 ([(.int .u64 i183), (.slice p184 n185 c186)] : List Value) = some h187 ∧
    (∃ i188 : Int, ∃ (p189 : Option Addr) (n190 c191 : Nat), ldN h187 h0.next 0 2 = some ([(.int .u64 i188), (.slice p189 n190 c191)] : List Value) ∧
    (Q (.tuple #[(.agg #[(.int .u64 i188), (.slice p189 n190 c191)]), (.slice none 0 0), (.int .i64 131)]) h187)))))))))))))))))))))))))))))))))))))))))))))) ∧
    (¬ (i6 : Int) = 0 → ∃ i192 : Int, ∃ (p193 : Option Addr) (n194 c195 : Nat), ldN h3 h.next 0 2 = some ([(.int .u64 i192), (.slice p193 n194 c195)] : List Value) ∧
    (Wf Try.prog K 35 [(.agg #[(.int .u64 i192), (.slice p193 n194 c195)])] h3 fun r196 h197 =>
    (∃ i198 : Int, ∃ (p199 : Option Addr) (n200 c201 : Nat), r196 = (.agg #[(.int .u64 i198), (.slice p199 n200 c201)]) ∧
    ((List.length ([(.int .u64 i198), (.slice p199 n200 c201)] : List Value) = 2) ∧ ∃ h202 : AH, stN h197 h0.next 0 ([(.int .u64 i198), (.slice p199 n200 c201)] : List Value) = some h202 ∧
    (∃ i203 : Int, ∃ (p204 : Option Addr) (n205 c206 : Nat), ldN h202 h0.next 0 2 = some ([(.int .u64 i203), (.slice p204 n205 c206)] : List Value) ∧
    (Q (.tuple #[(.agg #[(.int .u64 i203), (.slice p204 n205 c206)]), (.slice none 0 0), (.int .i64 i6)]) h202))))))))) :
    Wf Try.prog K 54 [(.agg #[(.int .u64 ia0_0), (.slice pa0_1 na0_1 ca0_1)]), (.string sa1)] h Q :=
  vcF_sound (hs := []) hk (Eq.mpr (by kernel_rfl) H)
theorem vc_dead_Split {K : Xs} (hk : K 64 = none) (pa0 : Option Addr) (na0 ca0 : Nat) (ia1 : Int) (h : AH) (Q : Value → AH → Prop) (H :
    ∃ I0 : Option Addr → Nat → Nat → Option Addr → Nat → Nat → Int → Nat → AH → Prop, (∃ n, I0 none 0 0 none 0 0 0 n h) ∧
    ∀ (k1 : Nat) (h2 : AH) (p4 : Option Addr) (n5 : Nat) (c6 : Nat) (p7 : Option Addr) (n8 : Nat) (c9 : Nat) (i10 : Int), I0 p4 n5 c6 p7 n8 c9 i10 k1 h2 →
    ((i10 : Int) < ((na0 : Nat) : Int) → derefP pa0 fun b11 o12 => (((0 : Int) ≤ i10) ∧ ((i10 : Int) < ((na0 : Nat) : Int)) ∧
    (∃ i13 : Int, ∃ i14 : Int, ∃ i15 : Int, ldN h2 b11 (o12 + Int.toNat i10 * 3) 3 = some ([(.int .i64 i13), (.int .u64 i14), (.int .u32 i15)] : List Value) ∧
    (∀ h16 : AH, h16 = h2.alloc (.cells ([(.int .i64 0), (.int .u64 0), (.int .u32 0)] : List Value) 56 false) →
    (List.length ([(.int .i64 i13), (.int .u64 i14), (.int .u32 i15)] : List Value) = 3) ∧ ∃ h17 : AH, stN h16 h2.next 0 ([(.int .i64 i13), (.int .u64 i14), (.int .u32 i15)] : List Value) = some h17 ∧
    (∃ i18 : Int, ∃ i19 : Int, ∃ i20 : Int, ldN h17 h2.next 0 3 = some ([(.int .i64 i18), (.int .u64 i19), (.int .u32 i20)] : List Value) ∧
    (Wf Try.prog K 69 [(.agg #[(.int .i64 i18), (.int .u64 i19), (.int .u32 i20)]), (.int .u64 ia1)] h17 fun r21 h22 =>
    (((r21 = (.bool true) ∧
    (∃ i23 : Int, ∃ i24 : Int, ∃ i25 : Int, ldN h22 h2.next 0 3 = some ([(.int .i64 i23), (.int .u64 i24), (.int .u32 i25)] : List Value) ∧
    (∀ h26 : AH, h26 = h22.alloc (.cells ([(.int .i64 i23), (.int .u64 i24), (.int .u32 i25)] : List Value) 56 false) →
    ∃ (p27 : Option Addr) (n28 c29 : Nat) (h30 : AH), aBuiltin Try.prog h26 .append #[57, 57] [(.slice p7 n8 c9), (.slice (some ⟨h22.next, 0, none⟩) 1 1)] = some (.slice p27 n28 c29, h30) ∧
    (∀ i31 : Int, i31 = IntKind.wrap .i64 (i10 + 1) → ∃ j3, j3 < k1 ∧ I0 p4 n5 c6 p27 n28 c29 i31 j3 h30)))) ∨ (r21 = (.bool false) ∧
    (∃ i32 : Int, ∃ i33 : Int, ∃ i34 : Int, ldN h22 h2.next 0 3 = some ([(.int .i64 i32), (.int .u64 i33), (.int .u32 i34)] : List Value) ∧
    (∀ h35 : AH, h35 = h22.alloc (.cells ([(.int .i64 i32), (.int .u64 i33), (.int .u32 i34)] : List Value) 56 false) →
    ∃ (p36 : Option Addr) (n37 c38 : Nat) (h39 : AH), aBuiltin Try.prog h35 .append #[57, 57] [(.slice p4 n5 c6), (.slice (some ⟨h22.next, 0, none⟩) 1 1)] = some (.slice p36 n37 c38, h39) ∧
    (∀ i40 : Int, i40 = IntKind.wrap .i64 (i10 + 1) → ∃ j3, j3 < k1 ∧ I0 p36 n37 c38 p7 n8 c9 i40 j3 h39)))))))))))) ∧
    (¬ (i10 : Int) < ((na0 : Nat) : Int) → Q (.tuple #[(.slice p4 n5 c6), (.slice p7 n8 c9)]) h2)) :
    Wf Try.prog K 64 [(.slice pa0 na0 ca0), (.int .u64 ia1)] h Q :=
  vcF_sound (hs := [(3, [(6, .slice none 0 0), (7, .slice none 0 0), (12, .int .i64 0)])]) hk (Eq.mpr (by kernel_rfl) H)
theorem vc_dead_Merge {K : Xs} (hk : K 65 = none) (pa0 : Option Addr) (na0 ca0 : Nat) (pa1 : Option Addr) (na1 ca1 : Nat) (h : AH) (Q : Value → AH → Prop) (H :
    ∀ i0 : Int, i0 = IntKind.wrap .i64 (((na0 : Nat) : Int) + ((na1 : Nat) : Int)) → ((0 : Int) ≤ 0 ∧ (0 : Int) ≤ i0 ∧ (i0 : Int) ≤ 9223372036854775807 ∧ (24 : Int) * i0 ≤ 281474976710656) ∧ ∀ h1 : AH, h1 = h.alloc (.cells ((List.replicate (Int.toNat i0) ([(.int .i64 0), (.int .u64 0), (.int .u32 0)] : List Value)).flatten) 56 false) →
    ∃ I2 : Option Addr → Nat → Nat → Option Addr → Nat → Nat → Option Addr → Nat → Nat → Nat → AH → Prop, (∃ n, I2 pa0 na0 ca0 pa1 na1 ca1 (some ⟨h.next, 0, none⟩) (Int.toNat 0) (Int.toNat i0) n h1) ∧
    ∀ (k3 : Nat) (h4 : AH) (p6 : Option Addr) (n7 : Nat) (c8 : Nat) (p9 : Option Addr) (n10 : Nat) (c11 : Nat) (p12 : Option Addr) (n13 : Nat) (c14 : Nat), I2 p6 n7 c8 p9 n10 c11 p12 n13 c14 k3 h4 →
    ((0 : Int) < ((n7 : Nat) : Int) → ((0 : Int) < ((n10 : Nat) : Int) → derefP p6 fun b15 o16 => (((0 : Int) ≤ 0) ∧ ((0 : Int) < ((n7 : Nat) : Int)) ∧
    (∃ i17 : Int, ∃ i18 : Int, ∃ i19 : Int, ldN h4 b15 o16 3 = some ([(.int .i64 i17), (.int .u64 i18), (.int .u32 i19)] : List Value) ∧
    (derefP p9 fun b20 o21 => (((0 : Int) ≤ 0) ∧ ((0 : Int) < ((n10 : Nat) : Int)) ∧
    (∃ i22 : Int, ∃ i23 : Int, ∃ i24 : Int, ldN h4 b20 o21 3 = some ([(.int .i64 i22), (.int .u64 i23), (.int .u32 i24)] : List Value) ∧
    (Wf Try.prog K 70 [(.agg #[(.int .i64 i17), (.int .u64 i18), (.int .u32 i19)]), (.agg #[(.int .i64 i22), (.int .u64 i23), (.int .u32 i24)])] h4 fun r25 h26 =>
    (((r25 = (.bool true) ∧
    (derefP p6 fun b27 o28 => (((0 : Int) ≤ 0) ∧ ((0 : Int) < ((n7 : Nat) : Int)) ∧
    (∃ i29 : Int, ∃ i30 : Int, ∃ i31 : Int, ldN h26 b27 o28 3 = some ([(.int .i64 i29), (.int .u64 i30), (.int .u32 i31)] : List Value) ∧
    (∀ h32 : AH, h32 = h26.alloc (.cells ([(.int .i64 i29), (.int .u64 i30), (.int .u32 i31)] : List Value) 56 false) →
    ∃ (p33 : Option Addr) (n34 c35 : Nat) (h36 : AH), aBuiltin Try.prog h32 .append #[57, 57] [(.slice p12 n13 c14), (.slice (some ⟨h26.next, 0, none⟩) 1 1)] = some (.slice p33 n34 c35, h36) ∧
    (∃ (p37 : Option Addr) (n38 c39 : Nat), aSlice Try.prog h36 57 (.slice p6 n7 c8) (some (.int .i64 1)) none none = some (.slice p37 n38 c39) ∧
    ((aSlice Try.prog h32 57 (.slice p6 n7 c8) (some (.int .i64 1)) none none = some (.slice p37 n38 c39)) ∧
    ((aSlice Try.prog h36 57 (.slice p6 n7 c8) (some (.int .i64 1)) none none = some (.slice p37 n38 c39)) ∧
    (∃ j5, j5 < k3 ∧ I2 p37 n38 c39 p9 n10 c11 p33 n34 c35 j5 h36))))))))) ∨ (r25 = (.bool false) ∧
    (derefP p9 fun b40 o41 => (((0 : Int) ≤ 0) ∧ ((0 : Int) < ((n10 : Nat) : Int)) ∧
    (∃ i42 : Int, ∃ i43 : Int, ∃ i44 : Int, ldN h26 b40 o41 3 = some ([(.int .i64 i42), (.int .u64 i43), (.int .u32 i44)] : List Value) ∧
    (derefP p6 fun b45 o46 => (((0 : Int) ≤ 0) ∧ ((0 : Int) < ((n7 : Nat) : Int)) ∧
    (∃ i47 : Int, ∃ i48 : Int, ∃ i49 : Int, ldN h26 b45 o46 3 = some ([(.int .i64 i47), (.int .u64 i48), (.int .u32 i49)] : List Value) ∧
    (Wf Try.prog K 70 [(.agg #[(.int .i64 i42), (.int .u64 i43), (.int .u32 i44)]), (.agg #[(.int .i64 i47), (.int .u64 i48), (.int .u32 i49)])] h26 fun r50 h51 =>
    (((r50 = (.bool true) ∧
    (derefP p9 fun b52 o53 => (((0 : Int) ≤ 0) ∧ ((0 : Int) < ((n10 : Nat) : Int)) ∧
    (∃ i54 : Int, ∃ i55 : Int, ∃ i56 : Int, ldN h51 b52 o53 3 = some ([(.int .i64 i54), (.int .u64 i55), (.int .u32 i56)] : List Value) ∧
    (∀ h57 : AH, h57 = h51.alloc (.cells ([(.int .i64 i54), (.int .u64 i55), (.int .u32 i56)] : List Value) 56 false) →
    ∃ (p58 : Option Addr) (n59 c60 : Nat) (h61 : AH), aBuiltin Try.prog h57 .append #[57, 57] [(.slice p12 n13 c14), (.slice (some ⟨h51.next, 0, none⟩) 1 1)] = some (.slice p58 n59 c60, h61) ∧
    (∃ (p62 : Option Addr) (n63 c64 : Nat), aSlice Try.prog h61 57 (.slice p9 n10 c11) (some (.int .i64 1)) none none = some (.slice p62 n63 c64) ∧
    ((aSlice Try.prog h57 57 (.slice p9 n10 c11) (some (.int .i64 1)) none none = some (.slice p62 n63 c64)) ∧
    ((aSlice Try.prog h61 57 (.slice p9 n10 c11) (some (.int .i64 1)) none none = some (.slice p62 n63 c64)) ∧
    (∃ j5, j5 < k3 ∧ I2 p6 n7 c8 p62 n63 c64 p58 n59 c60 j5 h61))))))))) ∨ (r50 = (.bool false) ∧
    (Q (.tuple #[(.slice none 0 0), (.int .i64 131)]) h51))))))))))))))))))))) ∧
    (¬ (0 : Int) < ((n10 : Nat) : Int) → ∃ (p65 : Option Addr) (n66 c67 : Nat) (h68 : AH), aBuiltin Try.prog h4 .append #[57, 57] [(.slice p12 n13 c14), (.slice p6 n7 c8)] = some (.slice p65 n66 c67, h68) ∧
    (∃ (p69 : Option Addr) (n70 c71 : Nat) (h72 : AH), aBuiltin Try.prog h68 .append #[57, 57] [(.slice p65 n66 c67), (.slice p9 n10 c11)] = some (.slice p69 n70 c71, h72) ∧
    (Q (.tuple #[(.slice p69 n70 c71), (.int .i64 0)]) h72)))) ∧
    (¬ (0 : Int) < ((n7 : Nat) : Int) → ∃ (p73 : Option Addr) (n74 c75 : Nat) (h76 : AH), aBuiltin Try.prog h4 .append #[57, 57] [(.slice p12 n13 c14), (.slice p6 n7 c8)] = some (.slice p73 n74 c75, h76) ∧
    (∃ (p77 : Option Addr) (n78 c79 : Nat) (h80 : AH), aBuiltin Try.prog h76 .append #[57, 57] [(.slice p73 n74 c75), (.slice p9 n10 c11)] = some (.slice p77 n78 c79, h80) ∧
    (Q (.tuple #[(.slice p77 n78 c79), (.int .i64 0)]) h80)))) :
    Wf Try.prog K 65 [(.slice pa0 na0 ca0), (.slice pa1 na1 ca1)] h Q :=
  vcF_sound (hs := [(2, [(0, .slice none 0 0), (1, .slice none 0 0), (6, .slice none 0 0)])]) hk (Eq.mpr (by kernel_rfl) H)
theorem vc_ptr_Since {K : Xs} (hk : K 69 = none) (ia0_0 : Int) (ia0_1 : Int) (ia0_2 : Int) (ia1 : Int) (h : AH) (Q : Value → AH → Prop) (H :
    ∀ h0 : AH, h0 = h.alloc (.cells ([(.int .i64 ia0_0), (.int .u64 ia0_1), (.int .u32 ia0_2)] : List Value) 56 false) →
    ∃ i1 : Int, ∃ i2 : Int, ∃ i3 : Int, ldN h0 h.next 0 3 = some ([(.int .i64 i1), (.int .u64 i2), (.int .u32 i3)] : List Value) ∧
    (∃ la4 lb5, keyA Try.prog 56 (.agg #[(.int .i64 i1), (.int .u64 i2), (.int .u32 i3)]) = some la4 ∧ keyA Try.prog 56 (.agg #[(.int .i64 0), (.int .u64 0), (.int .u32 0)]) = some lb5 ∧
    (litsEq la4 lb5 = true → Q (.bool false) h0) ∧
    (litsEq la4 lb5 = false → ∃ i6 : Int, ld1 h0 h.next 1 = some (.int .u64 i6) ∧
    (((ia1 : Int) < i6 → Q (.bool true) h0) ∧
    (¬ (ia1 : Int) < i6 → Q (.bool false) h0))))) :
    Wf Try.prog K 69 [(.agg #[(.int .i64 ia0_0), (.int .u64 ia0_1), (.int .u32 ia0_2)]), (.int .u64 ia1)] h Q :=
  vcF_sound (hs := []) hk (Eq.mpr (by kernel_rfl) H)
theorem vc_slices_Index___uint64_uint64_ {K : Xs} (hk : K 47 = none) (pa0 : Option Addr) (na0 ca0 : Nat) (ia1 : Int) (h : AH) (Q : Value → AH → Prop) (H :
    ∃ I0 : Int → Nat → AH → Prop, (∃ n, I0 0 n h) ∧
    ∀ (k1 : Nat) (h2 : AH) (i4 : Int), I0 i4 k1 h2 →
    ((i4 : Int) < ((na0 : Nat) : Int) → derefP pa0 fun b5 o6 => (((0 : Int) ≤ i4) ∧ ((i4 : Int) < ((na0 : Nat) : Int)) ∧
    (∃ i7 : Int, ld1 h2 b5 (o6 + Int.toNat i4 * 1) = some (.int .u64 i7) ∧
    (((ia1 : Int) = i7 → Q (.int .i64 i4) h2) ∧
    (¬ (ia1 : Int) = i7 → ∀ i8 : Int, i8 = IntKind.wrap .i64 (i4 + 1) → ∃ j3, j3 < k1 ∧ I0 i8 j3 h2))))) ∧
    (¬ (i4 : Int) < ((na0 : Nat) : Int) → Q (.int .i64 (-1)) h2)) :
    Wf Try.prog K 47 [(.slice pa0 na0 ca0), (.int .u64 ia1)] h Q :=
  vcF_sound (hs := [(2, [(8, .int .i64 0)])]) hk (Eq.mpr (by kernel_rfl) H)
theorem vc_slices_ContainsFunc_rule_Promote_1 {K : Xs} (hk : K 49 = none) (pa0 : Option Addr) (na0 ca0 : Nat) (pg0 : Option Addr) (pg1 : Option Addr) (pg2 : Option Addr) (h : AH) (Q : Value → AH → Prop) (H :
    Wf Try.prog K 58 [(.slice pa0 na0 ca0), (.func (.func 50) #[] #[(.pointer pg0), (.pointer pg1), (.pointer pg2)])] h fun r0 h1 =>
    (∃ i2 : Int, r0 = (.int .i64 i2) ∧
    (((0 : Int) ≤ i2 → Q (.bool true) h1) ∧
    (¬ (0 : Int) ≤ i2 → Q (.bool false) h1)))) :
    Wf Try.prog K 49 [(.slice pa0 na0 ca0), (.func (.func 50) #[] #[(.pointer pg0), (.pointer pg1), (.pointer pg2)])] h Q :=
  vcF_sound (hs := []) hk (Eq.mpr (by kernel_rfl) H)
theorem vc_api_Set_ {K : Xs} (hk : K 61 = none) (pa0 : Option Addr) (na0 ca0 : Nat) (ia1 : Int) (ia2 : Int) (h : AH) (Q : Value → AH → Prop) (H :
    ∃ (p0 : Option Addr) (n1 c2 : Nat), aSlice Try.prog h 47 (.slice pa0 na0 ca0) (some (.int .i64 ia1)) (some (.int .i64 ia2)) (some (.int .i64 ((na0 : Nat) : Int))) = some (.slice p0 n1 c2) ∧
    (((ia1 : Int) = ia2 → Q (.slice pa0 na0 ca0) h) ∧
    (¬ (ia1 : Int) = ia2 → ∃ (p3 : Option Addr) (n4 c5 : Nat), aSlice Try.prog h 47 (.slice pa0 na0 ca0) none (some (.int .i64 ia1)) none = some (.slice p3 n4 c5) ∧
    (∃ (p6 : Option Addr) (n7 c8 : Nat), aSlice Try.prog h 47 (.slice pa0 na0 ca0) (some (.int .i64 ia2)) none none = some (.slice p6 n7 c8) ∧
    (∃ (p9 : Option Addr) (n10 c11 : Nat) (h12 : AH), aBuiltin Try.prog h .append #[47, 47] [(.slice p3 n4 c5), (.slice p6 n7 c8)] = some (.slice p9 n10 c11, h12) ∧
    (∃ (p13 : Option Addr) (n14 c15 : Nat), aSlice Try.prog h12 47 (.slice p9 n10 c11) (some (.int .i64 ((n10 : Nat) : Int))) (some (.int .i64 ((na0 : Nat) : Int))) none = some (.slice p13 n14 c15) ∧
    (∃ h16 : AH, aBuiltin Try.prog h12 .clear #[47] [(.slice p13 n14 c15)] = some (undef, h16) ∧
    (Q (.slice p9 n10 c11) h16)))))))) :
    Wf Try.prog K 61 [(.slice pa0 na0 ca0), (.int .i64 ia1), (.int .i64 ia2)] h Q :=
  vcF_sound (hs := []) hk (Eq.mpr (by kernel_rfl) H)
theorem vc_slices_IndexFunc_rule_place_1 {K : Xs} (hk : K 58 = none) (pa0 : Option Addr) (na0 ca0 : Nat) (pg0 : Option Addr) (h : AH) (Q : Value → AH → Prop) (H :
    ∃ I0 : Int → Nat → AH → Prop, (∃ n, I0 0 n h) ∧
    ∀ (k1 : Nat) (h2 : AH) (i4 : Int), I0 i4 k1 h2 →
    ((i4 : Int) < ((na0 : Nat) : Int) → derefP pa0 fun b5 o6 => (((0 : Int) ≤ i4) ∧ ((i4 : Int) < ((na0 : Nat) : Int)) ∧
    (∃ i7 : Int, ∃ s8 : ByteArray, ∃ b9 : Bool, ∃ i10 : Int, ∃ i11 : Int, ∃ i12 : Int, ∃ i13 : Int, ∃ i14 : Int, ∃ i15 : Int, ∃ i16 : Int, ∃ (p17 : Option Addr) (n18 c19 : Nat), ldN h2 b5 (o6 + Int.toNat i4 * 11) 11 = some ([(.int .u64 i7), (.string s8), (.bool b9), (.int .u64 i10), (.int .u64 i11), (.int .u64 i12), (.int .i64 i13), (.int .i64 i14), (.int .u64 i15), (.int .u32 i16), (.slice p17 n18 c19)] : List Value) ∧
    (Wf Try.prog K 59 [(.agg #[(.int .u64 i7), (.string s8), (.bool b9), (.int .u64 i10), (.int .u64 i11), (.int .u64 i12), (.int .i64 i13), (.int .i64 i14), (.int .u64 i15), (.int .u32 i16), (.slice p17 n18 c19)]), (.pointer pg0)] h2 fun r20 h21 =>
    (((r20 = (.bool true) ∧
    (Q (.int .i64 i4) h21)) ∨ (r20 = (.bool false) ∧
    (∀ i22 : Int, i22 = IntKind.wrap .i64 (i4 + 1) → ∃ j3, j3 < k1 ∧ I0 i22 j3 h21)))))))) ∧
    (¬ (i4 : Int) < ((na0 : Nat) : Int) → Q (.int .i64 (-1)) h2)) :
    Wf Try.prog K 58 [(.slice pa0 na0 ca0), (.func (.func 59) #[] #[(.pointer pg0)])] h Q :=
  vcF_sound (hs := [(2, [(8, .int .i64 0)])]) hk (Eq.mpr (by kernel_rfl) H)
theorem vc_slices_IndexFunc_rule_Promote_1 {K : Xs} (hk : K 58 = none) (pa0 : Option Addr) (na0 ca0 : Nat) (pg0 : Option Addr) (pg1 : Option Addr) (pg2 : Option Addr) (h : AH) (Q : Value → AH → Prop) (H :
    ∃ I0 : Int → Nat → AH → Prop, (∃ n, I0 0 n h) ∧
    ∀ (k1 : Nat) (h2 : AH) (i4 : Int), I0 i4 k1 h2 →
    ((i4 : Int) < ((na0 : Nat) : Int) → derefP pa0 fun b5 o6 => (((0 : Int) ≤ i4) ∧ ((i4 : Int) < ((na0 : Nat) : Int)) ∧
    (∃ i7 : Int, ∃ s8 : ByteArray, ∃ b9 : Bool, ∃ i10 : Int, ∃ i11 : Int, ∃ i12 : Int, ∃ i13 : Int, ∃ i14 : Int, ∃ i15 : Int, ∃ i16 : Int, ∃ (p17 : Option Addr) (n18 c19 : Nat), ldN h2 b5 (o6 + Int.toNat i4 * 11) 11 = some ([(.int .u64 i7), (.string s8), (.bool b9), (.int .u64 i10), (.int .u64 i11), (.int .u64 i12), (.int .i64 i13), (.int .i64 i14), (.int .u64 i15), (.int .u32 i16), (.slice p17 n18 c19)] : List Value) ∧
    (Wf Try.prog K 50 [(.agg #[(.int .u64 i7), (.string s8), (.bool b9), (.int .u64 i10), (.int .u64 i11), (.int .u64 i12), (.int .i64 i13), (.int .i64 i14), (.int .u64 i15), (.int .u32 i16), (.slice p17 n18 c19)]), (.pointer pg0), (.pointer pg1), (.pointer pg2)] h2 fun r20 h21 =>
    (((r20 = (.bool true) ∧
    (Q (.int .i64 i4) h21)) ∨ (r20 = (.bool false) ∧
    (∀ i22 : Int, i22 = IntKind.wrap .i64 (i4 + 1) → ∃ j3, j3 < k1 ∧ I0 i22 j3 h21)))))))) ∧
    (¬ (i4 : Int) < ((na0 : Nat) : Int) → Q (.int .i64 (-1)) h2)) :
    Wf Try.prog K 58 [(.slice pa0 na0 ca0), (.func (.func 50) #[] #[(.pointer pg0), (.pointer pg1), (.pointer pg2)])] h Q :=
  vcF_sound (hs := [(2, [(8, .int .i64 0)])]) hk (Eq.mpr (by kernel_rfl) H)
end Go.Am
