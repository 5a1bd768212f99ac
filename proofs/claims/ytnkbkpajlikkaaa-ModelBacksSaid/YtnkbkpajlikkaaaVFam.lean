/-
  WEAKEST CONDITIONS of some functions of this program, printed by a program.
-/
import Derived.Test.YtnkbkpajlikkaaaAmG
import Derived.Test.YtnkbkpajlikkaaaRows
set_option linter.unusedVariables false
set_option maxRecDepth 100000
namespace Go.Am
open Go.Proofs
theorem vc_family_place {K : Xs} (hk : K 31 = none) (pa0 : Option Addr) (na0 ca0 : Nat) (ia1 : Int) (h : AH) (Q : Value → AH → Prop) (H :
    ∃ I0 : Int → Nat → AH → Prop, (∃ n, I0 0 n h) ∧
    ∀ (k1 : Nat) (h2 : AH) (i4 : Int), I0 i4 k1 h2 →
    ((i4 : Int) < ((na0 : Nat) : Int) → derefP pa0 fun b5 o6 => (((0 : Int) ≤ i4) ∧ ((i4 : Int) < ((na0 : Nat) : Int)) ∧
    (∃ i7 : Int, ld1 h2 b5 (o6 + Int.toNat i4 * 11) = some (.int .u64 i7) ∧
    (((i7 : Int) = ia1 → Q (.int .i64 i4) h2) ∧
    (¬ (i7 : Int) = ia1 → ∀ i8 : Int, i8 = IntKind.wrap .i64 (i4 + 1) → ∃ j3, j3 < k1 ∧ I0 i8 j3 h2))))) ∧
    (¬ (i4 : Int) < ((na0 : Nat) : Int) → Q (.int .i64 (-1)) h2)) :
    Wf Try.prog K 31 [(.slice pa0 na0 ca0), (.int .u64 ia1)] h Q :=
  vcF_sound (hs := [(2, [(8, .int .i64 0)])]) hk (Eq.mpr (by kernel_rfl) H)
theorem vc_family_Floor {K : Xs} (hk : K 43 = none) (pa0 : Option Addr) (na0 ca0 : Nat) (ia1 : Int) (h : AH) (Q : Value → AH → Prop) (H :
    Wf Try.prog K 31 [(.slice pa0 na0 ca0), (.int .u64 ia1)] h fun r0 h1 =>
    (∃ i2 : Int, r0 = (.int .i64 i2) ∧
    (((i2 : Int) < 0 → Q (.int .u64 0) h1) ∧
    (¬ (i2 : Int) < 0 → derefP pa0 fun b3 o4 => (((0 : Int) ≤ i2) ∧ ((i2 : Int) < ((na0 : Nat) : Int)) ∧
    (∃ i5 : Int, ld1 h1 b3 ((o4 + Int.toNat i2 * 11) + 4) = some (.int .u64 i5) ∧
    (((i5 : Int) = 0 → Q (.int .u64 0) h1) ∧
    (¬ (i5 : Int) = 0 → derefP pa0 fun b6 o7 => (((0 : Int) ≤ i2) ∧ ((i2 : Int) < ((na0 : Nat) : Int)) ∧
    (∃ i8 : Int, ld1 h1 b6 ((o7 + Int.toNat i2 * 11) + 4) = some (.int .u64 i8) ∧
    (Wf Try.prog K 31 [(.slice pa0 na0 ca0), (.int .u64 i8)] h1 fun r9 h10 =>
    (∃ i11 : Int, r9 = (.int .i64 i11) ∧
    (((i11 : Int) < 0 → Q (.int .u64 0) h10) ∧
    (¬ (i11 : Int) < 0 → derefP pa0 fun b12 o13 => (((0 : Int) ≤ i11) ∧ ((i11 : Int) < ((na0 : Nat) : Int)) ∧
    (∃ i14 : Int, ld1 h10 b12 ((o13 + Int.toNat i11 * 11) + 5) = some (.int .u64 i14) ∧
    (Q (.int .u64 i14) h10))))))))))))))))) :
    Wf Try.prog K 43 [(.slice pa0 na0 ca0), (.int .u64 ia1)] h Q :=
  vcF_sound (hs := []) hk (Eq.mpr (by kernel_rfl) H)
theorem vc_family_callOf {K : Xs} (hk : K 66 = none) (pa0 : Option Addr) (h : AH) (Q : Value → AH → Prop) (H :
    ∀ h0 : AH, h0 = h.alloc (.cells ([(.int .u64 0), (.string (ByteArray.mk #[]))] : List Value) 111 false) →
    derefP pa0 fun b1 o2 => (((ld1 h0 b1 (o2 + 2) = some (.bool true) ∧
    (derefP pa0 fun b3 o4 => (∃ i5 : Int, ld1 h0 b3 (o4 + 3) = some (.int .u64 i5) ∧
    (derefP pa0 fun b6 o7 => (∃ s8 : ByteArray, ld1 h0 b6 (o7 + 1) = some (.string s8) ∧
    ((List.length ([(.int .u64 i5), (.string s8)] : List Value) = 2) ∧ ∃ h9 : AH, stN h0 h.next 0 ([(.int .u64 i5), (.string s8)] : List Value) = some h9 ∧
    (∃ i10 : Int, ∃ s11 : ByteArray, ldN h9 h.next 0 2 = some ([(.int .u64 i10), (.string s11)] : List Value) ∧
    (Q (.agg #[(.int .u64 i10), (.string s11)]) h9)))))))) ∨ (ld1 h0 b1 (o2 + 2) = some (.bool false) ∧
    (derefP pa0 fun b12 o13 => (∃ s14 : ByteArray, ld1 h0 b12 (o13 + 1) = some (.string s14) ∧
    ((List.length ([(.int .u64 0), (.string s14)] : List Value) = 2) ∧ ∃ h15 : AH, stN h0 h.next 0 ([(.int .u64 0), (.string s14)] : List Value) = some h15 ∧
    (∃ i16 : Int, ∃ s17 : ByteArray, ldN h15 h.next 0 2 = some ([(.int .u64 i16), (.string s17)] : List Value) ∧
    (Q (.agg #[(.int .u64 i16), (.string s17)]) h15))))))))) :
    Wf Try.prog K 66 [(.pointer pa0)] h Q :=
  vcF_sound (hs := []) hk (Eq.mpr (by kernel_rfl) H)
theorem vc_family_hanging {K : Xs} (hk : K 68 = none) (pa0 : Option Addr) (na0 ca0 : Nat) (ia1 : Int) (h : AH) (Q : Value → AH → Prop) (H :
    ∀ h0 : AH, h0 = h.alloc (.cells ([(.slice pa0 na0 ca0)] : List Value) 47 false) →
    ∀ h1 : AH, h1 = h0.alloc (.cells ([(.int .u64 ia1)] : List Value) 46 false) →
    Q (.func (.func 72) #[] #[(.pointer (some ⟨h.next, 0, none⟩)), (.pointer (some ⟨h0.next, 0, none⟩))]) h1) :
    Wf Try.prog K 68 [(.slice pa0 na0 ca0), (.int .u64 ia1)] h Q :=
  vcF_sound (hs := []) hk (Eq.mpr (by kernel_rfl) H)
theorem vc_family_hanging_1 {K : Xs} (hk : K 72 = none) (ya0 : Nat) (pf0 : Option Addr) (pf1 : Option Addr) (h : AH) (Q : Value → AH → Prop) (H :
    derefP pf0 fun b0 o1 => (∃ (p2 : Option Addr) (n3 c4 : Nat), ld1 h b0 o1 = some (.slice p2 n3 c4) ∧
    (∃ I5 : Int → Nat → AH → Prop, (∃ n, I5 0 n h) ∧
    ∀ (k6 : Nat) (h7 : AH) (i9 : Int), I5 i9 k6 h7 →
    ((i9 : Int) < ((n3 : Nat) : Int) → derefP pf0 fun b10 o11 => (∃ (p12 : Option Addr) (n13 c14 : Nat), ld1 h7 b10 o11 = some (.slice p12 n13 c14) ∧
    (derefP p12 fun b15 o16 => (((0 : Int) ≤ i9) ∧ ((i9 : Int) < ((n13 : Nat) : Int)) ∧
    (∃ i17 : Int, ld1 h7 b15 ((o16 + Int.toNat i9 * 11) + 4) = some (.int .u64 i17) ∧
    (derefP pf1 fun b18 o19 => (∃ i20 : Int, ld1 h7 b18 o19 = some (.int .u64 i20) ∧
    (((i17 : Int) = i20 → Wy Try.prog K ya0 [(.int .i64 i9)] h7 fun r21 h22 => ∃ b23 : Bool, r21 = .bool b23 ∧
    (cond (!b23) (Q (.tuple #[]) h22)
    (∀ i24 : Int, i24 = IntKind.wrap .i64 (i9 + 1) → ∃ j8, j8 < k6 ∧ I5 i24 j8 h22))) ∧
    (¬ (i17 : Int) = i20 → ∀ i25 : Int, i25 = IntKind.wrap .i64 (i9 + 1) → ∃ j8, j8 < k6 ∧ I5 i25 j8 h7))))))))) ∧
    (¬ (i9 : Int) < ((n3 : Nat) : Int) → Q (.tuple #[]) h7)))) :
    Wf Try.prog K 72 [(Value.func (Fn.yield ya0) #[] #[]), (.pointer pf0), (.pointer pf1)] h Q :=
  vcF_sound (hs := [(1, [(7, .int .i64 0)])]) hk (Eq.mpr (by kernel_rfl) H)
theorem vc_family_Find {K : Xs} (hk : K 38 = none) (pa0 : Option Addr) (na0 ca0 : Nat) (ia1 : Int) (h : AH) (Q : Value → AH → Prop) (H :
    ∀ h0 : AH, h0 = h.alloc (.cells ([(.int .u64 0), (.string (ByteArray.mk #[])), (.bool false), (.int .u64 0), (.int .u64 0), (.int .u64 0), (.int .i64 0), (.int .i64 0), (.int .u64 0), (.int .u32 0), (.slice none 0 0)] : List Value) 59 false) →
    Wf Try.prog K 31 [(.slice pa0 na0 ca0), (.int .u64 ia1)] h0 fun r1 h2 =>
    (∃ i3 : Int, r1 = (.int .i64 i3) ∧
    (((i3 : Int) < 0 → (List.length ([(.int .u64 0), (.string (ByteArray.mk #[])), (.bool false), (.int .u64 0), (.int .u64 0), (.int .u64 0), (.int .i64 0), (.int .i64 0), (.int .u64 0), (.int .u32 0), (.slice none 0 0)] : List Value) = 11) ∧ ∃ h4 : AH, stN h2 h.next 0 ([(.int .u64 0), (.string (ByteArray.mk #[])), (.bool false), (.int .u64 0), (.int .u64 0), (.int .u64 0), (.int .i64 0), (.int .i64 0), (.int .u64 0), (.int .u32 0), (.slice none 0 0)] : List Value) = some h4 ∧
    (∃ i5 : Int, ∃ s6 : ByteArray, ∃ b7 : Bool, ∃ i8 : Int, ∃ i9 : Int, ∃ i10 : Int, ∃ i11 : Int, ∃ i12 : Int, ∃ i13 : Int, ∃ i14 : Int, ∃ (p15 : Option Addr) (n16 c17 : Nat), ldN h4 h.next 0 11 = some ([(.int .u64 i5), (.string s6), (.bool b7), (.int .u64 i8), (.int .u64 i9), (.int .u64 i10), (.int .i64 i11), (.int .i64 i12), (.int .u64 i13), (.int .u32 i14), (.slice p15 n16 c17)] : List Value) ∧
    (Q (.tuple #[(.agg #[(.int .u64 i5), (.string s6), (.bool b7), (.int .u64 i8), (.int .u64 i9), (.int .u64 i10), (.int .i64 i11), (.int .i64 i12), (.int .u64 i13), (.int .u32 i14), (.slice p15 n16 c17)]), (.bool false)]) h4))) ∧
    (¬ (i3 : Int) < 0 → derefP pa0 fun b18 o19 => (((0 : Int) ≤ i3) ∧ ((i3 : Int) < ((na0 : Nat) : Int)) ∧
    (∃ i20 : Int, ∃ s21 : ByteArray, ∃ b22 : Bool, ∃ i23 : Int, ∃ i24 : Int, ∃ i25 : Int, ∃ i26 : Int, ∃ i27 : Int, ∃ i28 : Int, ∃ i29 : Int, ∃ (p30 : Option Addr) (n31 c32 : Nat), ldN h2 b18 (o19 + Int.toNat i3 * 11) 11 = some ([(.int .u64 i20), (.string s21), (.bool b22), (.int .u64 i23), (.int .u64 i24), (.int .u64 i25), (.int .i64 i26), (.int .i64 i27), (.int .u64 i28), (.int .u32 i29), (.slice p30 n31 c32)] : List Value) ∧
    (Wf Try.prog K 44 [(.agg #[(.int .u64 i20), (.string s21), (.bool b22), (.int .u64 i23), (.int .u64 i24), (.int .u64 i25), (.int .i64 i26), (.int .i64 i27), (.int .u64 i28), (.int .u32 i29), (.slice p30 n31 c32)])] h2 fun r33 h34 =>
    (∃ i35 : Int, ∃ s36 : ByteArray, ∃ b37 : Bool, ∃ i38 : Int, ∃ i39 : Int, ∃ i40 : Int, ∃ i41 : Int, ∃ i42 : Int, ∃ i43 : Int, ∃ i44 : Int, ∃ (p45 : Option Addr) (n46 c47 : Nat), r33 = (.agg #[(.int .u64 i35), (.string s36), (.bool b37), (.int .u64 i38), (.int .u64 i39), (.int .u64 i40), (.int .i64 i41), (.int .i64 i42), (.int .u64 i43), (.int .u32 i44), (.slice p45 n46 c47)]) ∧
    ((List.length ([(.int .u64 i35), (.string s36), (.bool b37), (.int .u64 i38), (.int .u64 i39), (.int .u64 i40), (.int .i64 i41), (.int .i64 i42), (.int .u64 i43), (.int .u32 i44), (.slice p45 n46 c47)] : List Value) = 11) ∧ ∃ h48 : AH, stN h34 h.next 0 ([(.int .u64 i35), (.string s36), (.bool b37), (.int .u64 i38), (.int .u64 i39), (.int .u64 i40), (.int .i64 i41), (.int .i64 i42), (.int .u64 i43), (.int .u32 i44), (.slice p45 n46 c47)] : List Value) = some h48 ∧
    (∃ i49 : Int, ∃ s50 : ByteArray, ∃ b51 : Bool, ∃ i52 : Int, ∃ i53 : Int, ∃ i54 : Int, ∃ i55 : Int, ∃ i56 : Int, ∃ i57 : Int, ∃ i58 : Int, ∃ (p59 : Option Addr) (n60 c61 : Nat), ldN h48 h.next 0 11 = some ([(.int .u64 i49), (.string s50), (.bool b51), (.int .u64 i52), (.int .u64 i53), (.int .u64 i54), (.int .i64 i55), (.int .i64 i56), (.int .u64 i57), (.int .u32 i58), (.slice p59 n60 c61)] : List Value) ∧
    (Q (.tuple #[(.agg #[(.int .u64 i49), (.string s50), (.bool b51), (.int .u64 i52), (.int .u64 i53), (.int .u64 i54), (.int .i64 i55), (.int .i64 i56), (.int .u64 i57), (.int .u32 i58), (.slice p59 n60 c61)]), (.bool true)]) h48))))))))))) :
    Wf Try.prog K 38 [(.slice pa0 na0 ca0), (.int .u64 ia1)] h Q :=
  vcF_sound (hs := []) hk (Eq.mpr (by kernel_rfl) H)
theorem vc_family_Clones {K : Xs} (hk : K 62 = none) (pa0 : Option Addr) (na0 ca0 : Nat) (ia1 : Int) (h : AH) (Q : Value → AH → Prop) (H :
    ∀ h0 : AH, h0 = h.alloc (.cells ([(.slice pa0 na0 ca0)] : List Value) 47 false) →
    ∃ (p1 : Option Addr) (n2 c3 : Nat), ld1 h0 h.next 0 = some (.slice p1 n2 c3) ∧
    (Wf Try.prog K 31 [(.slice p1 n2 c3), (.int .u64 ia1)] h0 fun r4 h5 =>
    (∃ i6 : Int, r4 = (.int .i64 i6) ∧
    (∀ h7 : AH, h7 = h5.alloc (.cells ([(.int .i64 0)] : List Value) 3 false) →
    ∃ h8 : AH, st1 h7 h5.next 0 (.int .i64 i6) = some h8 ∧
    (∃ i9 : Int, ld1 h8 h5.next 0 = some (.int .i64 i9) ∧
    (((i9 : Int) < 0 → Q (.slice none 0 0) h8) ∧
    (¬ (i9 : Int) < 0 → ∃ (p10 : Option Addr) (n11 c12 : Nat), ld1 h8 h.next 0 = some (.slice p10 n11 c12) ∧
    (∃ i13 : Int, ld1 h8 h5.next 0 = some (.int .i64 i13) ∧
    (derefP p10 fun b14 o15 => (((0 : Int) ≤ i13) ∧ ((i13 : Int) < ((n11 : Nat) : Int)) ∧
    (((ld1 h8 b14 ((o15 + Int.toNat i13 * 11) + 2) = some (.bool true) ∧
    (∀ h16 : AH, h16 = h8.alloc (.cells ([(.slice none 0 0)] : List Value) 83 false) →
    ∃ (p17 : Option Addr) (n18 c19 : Nat), ld1 h16 h.next 0 = some (.slice p17 n18 c19) ∧
    (Wf Try.prog K 68 [(.slice p17 n18 c19), (.int .u64 ia1)] h16 fun r20 h21 =>
    (∃ (g22 : FuncId) (cap23 : List Value), r20 = (.func (.func g22) #[] cap23.toArray) ∧
    (∃ (J24 : Nat → AH → Prop) (D25 : AX → AH → Prop) (N26 : Nat) (item27 : Nat → List Value) (G30 B31 : AH → AH → Prop),
    (K g22 = none ∧ ([24] : List Nat) = [24]) ∧
    (∀ i, i < N26 → ∃ i33 : Int, item27 i = [(.int .i64 i33)]) ∧
    (∀ h1 : AH, h1.next = h21.next + 1 → (∀ c, c ≠ h21.next → h1.get c = h21.get c) → J24 0 h1) ∧
    (∀ i h1 h2, J24 i h1 → Near h21.next h1 h2 → J24 i h2) ∧
    (∀ x h1 h2, D25 x h1 → Near h21.next h1 h2 → D25 x h2) ∧
    (∀ i h1 h2, J24 i h1 → G30 h1 h2 → J24 i h2) ∧ (∀ x h1 h2, D25 x h1 → G30 h1 h2 → D25 x h2) ∧ (∀ h1 h2, G30 h1 h2 → h2.get h21.next = h1.get h21.next) ∧
    (∀ (k28 : Nat) (h29 : AH), k28 < N26 → J24 k28 h29 → (∃ L, h29.get h21.next = some (.loop L)) → ∀ (i32 : Int), item27 k28 = [(.int .i64 i32)] →
    AX.normal = AX.normal ∧ (h29.get h21.next = h29.get h21.next) ∧ ∀ h34 : AH, Near h21.next h29 h34 → (∃ L, h34.get h21.next = some (.loop L)) →
    ∃ (p35 : Option Addr) (n36 c37 : Nat), ld1 h34 h.next 0 = some (.slice p35 n36 c37) ∧
    (derefP p35 fun b38 o39 => (((0 : Int) ≤ i32) ∧ ((i32 : Int) < ((n36 : Nat) : Int)) ∧
    (∃ i40 : Int, ld1 h34 b38 ((o39 + Int.toNat i32 * 11) + 3) = some (.int .u64 i40) ∧
    (∃ (p41 : Option Addr) (n42 c43 : Nat), ld1 h34 h.next 0 = some (.slice p41 n42 c43) ∧
    (∃ i44 : Int, ld1 h34 h5.next 0 = some (.int .i64 i44) ∧
    (derefP p41 fun b45 o46 => (((0 : Int) ≤ i44) ∧ ((i44 : Int) < ((n42 : Nat) : Int)) ∧
    (∃ i47 : Int, ld1 h34 b45 ((o46 + Int.toNat i44 * 11) + 3) = some (.int .u64 i47) ∧
    (((i40 : Int) = i47 → (h34.get h21.next = h34.get h21.next ∧ J24 (k28 + 1) h34 ∧ ∀ h5, Near h21.next h34 h5 → B31 h29 h5)) ∧
    (¬ (i40 : Int) = i47 → ∃ (p48 : Option Addr) (n49 c50 : Nat), ld1 h34 h8.next 0 = some (.slice p48 n49 c50) ∧
    (∃ (p51 : Option Addr) (n52 c53 : Nat), ld1 h34 h.next 0 = some (.slice p51 n52 c53) ∧
    (derefP p51 fun b54 o55 => (((0 : Int) ≤ i32) ∧ ((i32 : Int) < ((n52 : Nat) : Int)) ∧
    (∃ i56 : Int, ld1 h34 b54 (o55 + Int.toNat i32 * 11) = some (.int .u64 i56) ∧
    (∀ h57 : AH, h57 = h34.alloc (.cells ([(.int .u64 i56)] : List Value) 46 false) →
    ∃ (p58 : Option Addr) (n59 c60 : Nat) (h61 : AH), aBuiltin Try.prog h57 .append #[83, 83] [(.slice p48 n49 c50), (.slice (some ⟨h34.next, 0, none⟩) 1 1)] = some (.slice p58 n59 c60, h61) ∧
    (∃ h62 : AH, st1 h61 h8.next 0 (.slice p58 n59 c60) = some h62 ∧
    ((h62.get h21.next = h34.get h21.next ∧ J24 (k28 + 1) h62 ∧ ∀ h5, Near h21.next h62 h5 → B31 h29 h5))))))))))))))))))) ∧
    (∀ (JJ63 : Nat → AH → Prop) (DD64 : AH → Prop), (∀ i h1, JJ63 i h1 → J24 i h1) → (∀ i h1 h2, JJ63 i h1 → G30 h1 h2 → JJ63 i h2) → (∀ h1 h2, DD64 h1 → G30 h1 h2 → DD64 h2) →
    (∀ (k66 : Nat) (h65 : AH), k66 < N26 → JJ63 k66 h65 → Wy Try.prog K h21.next (item27 k66) h65 fun r68 h69 => ((r68 = .bool true ∧ JJ63 (k66 + 1) h69) ∨ (r68 = .bool false ∧ DD64 h69)) ∧ B31 h65 h69) →
    ∀ h67 : AH, JJ63 0 h67 → Wf Try.prog K g22 ([(Value.func (Fn.yield h21.next) #[] #[])] ++ cap23) h67 fun _ h70 => JJ63 N26 h70 ∨ DD64 h70) ∧
    (∀ h71 : AH, J24 N26 h71 → ∃ (p72 : Option Addr) (n73 c74 : Nat), ld1 (h71.del h21.next) h8.next 0 = some (.slice p72 n73 c74) ∧
    (Q (.slice p72 n73 c74) (h71.del h21.next))) ∧
    (∀ (x76 : AX) (h75 : AH), x76 ≠ .normal → D25 x76 h75 → memAX x76 [] = true)))))) ∨ (ld1 h8 b14 ((o15 + Int.toNat i13 * 11) + 2) = some (.bool false) ∧
    (Q (.slice none 0 0) h8)))))))))))))) :
    Wf Try.prog K 62 [(.slice pa0 na0 ca0), (.int .u64 ia1)] h Q :=
  vcF_sound (hs := [(6, [(24, .int .i64 0)])]) hk (Eq.mpr (by kernel_rfl) H)
theorem vc_family_way {K : Xs} (hk : K 33 = none) (pa0 : Option Addr) (na0 ca0 : Nat) (ia1 : Int) (h : AH) (Q : Value → AH → Prop) (H :
    Wf Try.prog K 31 [(.slice pa0 na0 ca0), (.int .u64 ia1)] h fun r0 h1 =>
    (∃ i2 : Int, r0 = (.int .i64 i2) ∧
    (((i2 : Int) < 0 → Q (.tuple #[(.slice none 0 0), (.int .u64 0)]) h1) ∧
    (¬ (i2 : Int) < 0 → derefP pa0 fun b3 o4 => (((0 : Int) ≤ i2) ∧ ((i2 : Int) < ((na0 : Nat) : Int)) ∧
    (((ld1 h1 b3 ((o4 + Int.toNat i2 * 11) + 2) = some (.bool true) ∧
    (Q (.tuple #[(.slice none 0 0), (.int .u64 0)]) h1)) ∨ (ld1 h1 b3 ((o4 + Int.toNat i2 * 11) + 2) = some (.bool false) ∧
    (derefP pa0 fun b5 o6 => (((0 : Int) ≤ i2) ∧ ((i2 : Int) < ((na0 : Nat) : Int)) ∧
    (∃ i7 : Int, ld1 h1 b5 ((o6 + Int.toNat i2 * 11) + 4) = some (.int .u64 i7) ∧
    (∃ I8 : Option Addr → Nat → Nat → Int → Nat → AH → Prop, (∃ n, I8 none 0 0 i7 n h1) ∧
    ∀ (k9 : Nat) (h10 : AH) (p12 : Option Addr) (n13 : Nat) (c14 : Nat) (i15 : Int), I8 p12 n13 c14 i15 k9 h10 →
    ((i15 : Int) = 0 → Q (.tuple #[(.slice p12 n13 c14), (.int .u64 i15)]) h10) ∧
    (¬ (i15 : Int) = 0 → ((((n13 : Nat) : Int) : Int) < 32 → Wf Try.prog K 31 [(.slice pa0 na0 ca0), (.int .u64 i15)] h10 fun r16 h17 =>
    (∃ i18 : Int, r16 = (.int .i64 i18) ∧
    (((i18 : Int) < 0 → Q (.tuple #[(.slice p12 n13 c14), (.int .u64 i15)]) h17) ∧
    (¬ (i18 : Int) < 0 → derefP pa0 fun b19 o20 => (((0 : Int) ≤ i18) ∧ ((i18 : Int) < ((na0 : Nat) : Int)) ∧
    (∃ i21 : Int, ld1 h17 b19 ((o20 + Int.toNat i18 * 11) + 3) = some (.int .u64 i21) ∧
    (((i21 : Int) = ia1 → ∀ h22 : AH, h22 = h17.alloc (.cells ([(.int .u64 i15)] : List Value) 46 false) →
    ∃ (p23 : Option Addr) (n24 c25 : Nat) (h26 : AH), aBuiltin Try.prog h22 .append #[83, 83] [(.slice p12 n13 c14), (.slice (some ⟨h17.next, 0, none⟩) 1 1)] = some (.slice p23 n24 c25, h26) ∧
    (derefP pa0 fun b27 o28 => (((0 : Int) ≤ i18) ∧ ((i18 : Int) < ((na0 : Nat) : Int)) ∧
    (∃ i29 : Int, ld1 h26 b27 ((o28 + Int.toNat i18 * 11) + 4) = some (.int .u64 i29) ∧
    (∃ j11, j11 < k9 ∧ I8 p23 n24 c25 i29 j11 h26))))) ∧
    (¬ (i21 : Int) = ia1 → Q (.tuple #[(.slice p12 n13 c14), (.int .u64 i15)]) h17)))))))) ∧
    (¬ (((n13 : Nat) : Int) : Int) < 32 → Q (.tuple #[(.slice p12 n13 c14), (.int .u64 i15)]) h10)))))))))))))) :
    Wf Try.prog K 33 [(.slice pa0 na0 ca0), (.int .u64 ia1)] h Q :=
  vcF_sound (hs := [(6, [(7, .slice none 0 0), (8, .int .u64 0)])]) hk (Eq.mpr (by kernel_rfl) H)
theorem vc_family_Chain {K : Xs} (hk : K 46 = none) (pa0 : Option Addr) (na0 ca0 : Nat) (ia1 : Int) (h : AH) (Q : Value → AH → Prop) (H :
    Wf Try.prog K 33 [(.slice pa0 na0 ca0), (.int .u64 ia1)] h fun r0 h1 =>
    (∃ (p2 : Option Addr) (n3 c4 : Nat), ∃ i5 : Int, r0 = (.tuple #[(.slice p2 n3 c4), (.int .u64 i5)]) ∧
    (Q (.slice p2 n3 c4) h1))) :
    Wf Try.prog K 46 [(.slice pa0 na0 ca0), (.int .u64 ia1)] h Q :=
  vcF_sound (hs := []) hk (Eq.mpr (by kernel_rfl) H)
theorem vc_family_Origin {K : Xs} (hk : K 17 = none) (pa0 : Option Addr) (na0 ca0 : Nat) (ia1 : Int) (h : AH) (Q : Value → AH → Prop) (H :
    Wf Try.prog K 33 [(.slice pa0 na0 ca0), (.int .u64 ia1)] h fun r0 h1 =>
    (∃ (p2 : Option Addr) (n3 c4 : Nat), ∃ i5 : Int, r0 = (.tuple #[(.slice p2 n3 c4), (.int .u64 i5)]) ∧
    (Q (.int .u64 i5) h1))) :
    Wf Try.prog K 17 [(.slice pa0 na0 ca0), (.int .u64 ia1)] h Q :=
  vcF_sound (hs := []) hk (Eq.mpr (by kernel_rfl) H)
theorem vc_family_Named {K : Xs} (hk : K 30 = none) (pa0 : Option Addr) (na0 ca0 : Nat) (sa1 : ByteArray) (h : AH) (Q : Value → AH → Prop) (H :
    ∀ h0 : AH, h0 = h.alloc (.cells ([(.int .u64 0), (.string (ByteArray.mk #[])), (.bool false), (.int .u64 0), (.int .u64 0), (.int .u64 0), (.int .i64 0), (.int .i64 0), (.int .u64 0), (.int .u32 0), (.slice none 0 0)] : List Value) 59 false) →
    Wf Try.prog K 52 [(.string sa1)] h0 fun r1 h2 =>
    (∃ s3 : ByteArray, ∃ s4 : ByteArray, ∃ i5 : Int, r1 = (.tuple #[(.string s3), (.string s4), (.int .i64 i5)]) ∧
    (((i5 : Int) = 0 → Wf Try.prog K 56 [(.slice pa0 na0 ca0), (.agg #[(.int .u64 0), (.string s3)])] h2 fun r6 h7 =>
    (∃ i8 : Int, r6 = (.int .i64 i8) ∧
    (((0 : Int) ≤ i8 → (s4 = (ByteArray.mk #[]) → ((i8 : Int) < 0 → (List.length ([(.int .u64 0), (.string (ByteArray.mk #[])), (.bool false), (.int .u64 0), (.int .u64 0), (.int .u64 0), (.int .i64 0), (.int .i64 0), (.int .u64 0), (.int .u32 0), (.slice none 0 0)] : List Value) = 11) ∧ ∃ h9 : AH, stN h7 h.next 0 ([(.int .u64 0), (.string (ByteArray.mk #[])), (.bool false), (.int .u64 0), (.int .u64 0), (.int .u64 0), (.int .i64 0), (.int .i64 0), (.int .u64 0), (.int .u32 0), (.slice none 0 0)] : List Value) = some h9 ∧
    (∃ i10 : Int, ∃ s11 : ByteArray, ∃ b12 : Bool, ∃ i13 : Int, ∃ i14 : Int, ∃ i15 : Int, ∃ i16 : Int, ∃ i17 : Int, ∃ i18 : Int, ∃ i19 : Int, ∃ (p20 : Option Addr) (n21 c22 : Nat), ldN h9 h.next 0 11 = some ([(.int .u64 i10), (.string s11), (.bool b12), (.int .u64 i13), (.int .u64 i14), (.int .u64 i15), (.int .i64 i16), (.int .i64 i17), (.int .u64 i18), (.int .u32 i19), (.slice p20 n21 c22)] : List Value) ∧
    (Q (.tuple #[(.agg #[(.int .u64 i10), (.string s11), (.bool b12), (.int .u64 i13), (.int .u64 i14), (.int .u64 i15), (.int .i64 i16), (.int .i64 i17), (.int .u64 i18), (.int .u32 i19), (.slice p20 n21 c22)]), (.int .i64 161)]) h9))) ∧
    (¬ (i8 : Int) < 0 → derefP pa0 fun b23 o24 => (((0 : Int) ≤ i8) ∧ ((i8 : Int) < ((na0 : Nat) : Int)) ∧
    (∃ i25 : Int, ∃ s26 : ByteArray, ∃ b27 : Bool, ∃ i28 : Int, ∃ i29 : Int, ∃ i30 : Int, ∃ i31 : Int, ∃ i32 : Int, ∃ i33 : Int, ∃ i34 : Int, ∃ (p35 : Option Addr) (n36 c37 : Nat), ldN h7 b23 (o24 + Int.toNat i8 * 11) 11 = some ([(.int .u64 i25), (.string s26), (.bool b27), (.int .u64 i28), (.int .u64 i29), (.int .u64 i30), (.int .i64 i31), (.int .i64 i32), (.int .u64 i33), (.int .u32 i34), (.slice p35 n36 c37)] : List Value) ∧
    (Wf Try.prog K 44 [(.agg #[(.int .u64 i25), (.string s26), (.bool b27), (.int .u64 i28), (.int .u64 i29), (.int .u64 i30), (.int .i64 i31), (.int .i64 i32), (.int .u64 i33), (.int .u32 i34), (.slice p35 n36 c37)])] h7 fun r38 h39 =>
    (∃ i40 : Int, ∃ s41 : ByteArray, ∃ b42 : Bool, ∃ i43 : Int, ∃ i44 : Int, ∃ i45 : Int, ∃ i46 : Int, ∃ i47 : Int, ∃ i48 : Int, ∃ i49 : Int, ∃ (p50 : Option Addr) (n51 c52 : Nat), r38 = (.agg #[(.int .u64 i40), (.string s41), (.bool b42), (.int .u64 i43), (.int .u64 i44), (.int .u64 i45), (.int .i64 i46), (.int .i64 i47), (.int .u64 i48), (.int .u32 i49), (.slice p50 n51 c52)]) ∧
    ((List.length ([(.int .u64 i40), (.string s41), (.bool b42), (.int .u64 i43), (.int .u64 i44), (.int .u64 i45), (.int .i64 i46), (.int .i64 i47), (.int .u64 i48), (.int .u32 i49), (.slice p50 n51 c52)] : List Value) = 11) ∧ ∃ h53 : AH, stN h39 h.next 0 ([(.int .u64 i40), (.string s41), (.bool b42), (.int .u64 i43), (.int .u64 i44), (.int .u64 i45), (.int .i64 i46), (.int .i64 i47), (.int .u64 i48), (.int .u32 i49), (.slice p50 n51 c52)] : List Value) = some h53 ∧
    (∃ i54 : Int, ∃ s55 : ByteArray, ∃ b56 : Bool, ∃ i57 : Int, ∃ i58 : Int, ∃ i59 : Int, ∃ i60 : Int, ∃ i61 : Int, ∃ i62 : Int, ∃ i63 : Int, ∃ (p64 : Option Addr) (n65 c66 : Nat), ldN h53 h.next 0 11 = some ([(.int .u64 i54), (.string s55), (.bool b56), (.int .u64 i57), (.int .u64 i58), (.int .u64 i59), (.int .i64 i60), (.int .i64 i61), (.int .u64 i62), (.int .u32 i63), (.slice p64 n65 c66)] : List Value) ∧
    (Q (.tuple #[(.agg #[(.int .u64 i54), (.string s55), (.bool b56), (.int .u64 i57), (.int .u64 i58), (.int .u64 i59), (.int .i64 i60), (.int .i64 i61), (.int .u64 i62), (.int .u32 i63), (.slice p64 n65 c66)]), (.int .i64 0)]) h53))))))))) ∧
    (¬ s4 = (ByteArray.mk #[]) → derefP pa0 fun b67 o68 => (((0 : Int) ≤ i8) ∧ ((i8 : Int) < ((na0 : Nat) : Int)) ∧
    (∃ i69 : Int, ld1 h7 b67 (o68 + Int.toNat i8 * 11) = some (.int .u64 i69) ∧
    (Wf Try.prog K 56 [(.slice pa0 na0 ca0), (.agg #[(.int .u64 i69), (.string s4)])] h7 fun r70 h71 =>
    (∃ i72 : Int, r70 = (.int .i64 i72) ∧
    (((i72 : Int) < 0 → (List.length ([(.int .u64 0), (.string (ByteArray.mk #[])), (.bool false), (.int .u64 0), (.int .u64 0), (.int .u64 0), (.int .i64 0), (.int .i64 0), (.int .u64 0), (.int .u32 0), (.slice none 0 0)] : List Value) = 11) ∧ ∃ h73 : AH, stN h71 h.next 0 ([(.int .u64 0), (.string (ByteArray.mk #[])), (.bool false), (.int .u64 0), (.int .u64 0), (.int .u64 0), (.int .i64 0), (.int .i64 0), (.int .u64 0), (.int .u32 0), (.slice none 0 0)] : List Value) = some h73 ∧
    (∃ i74 : Int, ∃ s75 : ByteArray, ∃ b76 : Bool, ∃ i77 : Int, ∃ i78 : Int, ∃ i79 : Int, ∃ i80 : Int, ∃ i81 : Int, ∃ i82 : Int, ∃ i83 : Int, ∃ (p84 : Option Addr) (n85 c86 : Nat), ldN h73 h.next 0 11 = some ([(.int .u64 i74), (.string s75), (.bool b76), (.int .u64 i77), (.int .u64 i78), (.int .u64 i79), (.int .i64 i80), (.int .i64 i81), (.int .u64 i82), (.int .u32 i83), (.slice p84 n85 c86)] : List Value) ∧
    (Q (.tuple #[(.agg #[(.int .u64 i74), (.string s75), (.bool b76), (.int .u64 i77), (.int .u64 i78), (.int .u64 i79), (.int .i64 i80), (.int .i64 i81), (.int .u64 i82), (.int .u32 i83), (.slice p84 n85 c86)]), (.int .i64 161)]) h73))) ∧
    (¬ (i72 : Int) < 0 → derefP pa0 fun b87 o88 => (((0 : Int) ≤ i72) ∧ ((i72 : Int) < ((na0 : Nat) : Int)) ∧
    (∃ i89 : Int, ∃ s90 : ByteArray, ∃ b91 : Bool, ∃ i92 : Int, ∃ i93 : Int, ∃ i94 : Int, ∃ i95 : Int, ∃ i96 : Int, ∃ i97 : Int, ∃ i98 : Int, ∃ (p99 : Option Addr) (n100 c101 : Nat), ldN h71 b87 (o88 + Int.toNat i72 * 11) 11 = some ([(.int .u64 i89), (.string s90), (.bool b91), (.int .u64 i92), (.int .u64 i93), (.int .u64 i94), (.int .i64 i95), (.int .i64 i96), (.int .u64 i97), (.int .u32 i98), (.slice p99 n100 c101)] : List Value) ∧
    (Wf Try.prog K 44 [(.agg #[(.int .u64 i89), (.string s90), (.bool b91), (.int .u64 i92), (.int .u64 i93), (.int .u64 i94), (.int .i64 i95), (.int .i64 i96), (.int .u64 i97), (.int .u32 i98), (.slice p99 n100 c101)])] h71 fun r102 h103 =>
    (∃ i104 : Int, ∃ s105 : ByteArray, ∃ b106 : Bool, ∃ i107 : Int, ∃ i108 : Int, ∃ i109 : Int, ∃ i110 : Int, ∃ i111 : Int, ∃ i112 : Int, ∃ i113 : Int, ∃ (p114 : Option Addr) (n115 c116 : Nat), r102 = (.agg #[(.int .u64 i104), (.string s105), (.bool b106), (.int .u64 i107), (.int .u64 i108), (.int .u64 i109), (.int .i64 i110), (.int .i64 i111), (.int .u64 i112), (.int .u32 i113), (.slice p114 n115 c116)]) ∧
    ((List.length ([(.int .u64 i104), (.string s105), (.bool b106), (.int .u64 i107), (.int .u64 i108), (.int .u64 i109), (.int .i64 i110), (.int .i64 i111), (.int .u64 i112), (.int .u32 i113), (.slice p114 n115 c116)] : List Value) = 11) ∧ ∃ h117 : AH, stN h103 h.next 0 ([(.int .u64 i104), (.string s105), (.bool b106), (.int .u64 i107), (.int .u64 i108), (.int .u64 i109), (.int .i64 i110), (.int .i64 i111), (.int .u64 i112), (.int .u32 i113), (.slice p114 n115 c116)] : List Value) = some h117 ∧
    (∃ i118 : Int, ∃ s119 : ByteArray, ∃ b120 : Bool, ∃ i121 : Int, ∃ i122 : Int, ∃ i123 : Int, ∃ i124 : Int, ∃ i125 : Int, ∃ i126 : Int, ∃ i127 : Int, ∃ (p128 : Option Addr) (n129 c130 : Nat), ldN h117 h.next 0 11 = some ([(.int .u64 i118), (.string s119), (.bool b120), (.int .u64 i121), (.int .u64 i122), (.int .u64 i123), (.int .i64 i124), (.int .i64 i125), (.int .u64 i126), (.int .u32 i127), (.slice p128 n129 c130)] : List Value) ∧
    (Q (.tuple #[(.agg #[(.int .u64 i118), (.string s119), (.bool b120), (.int .u64 i121), (.int .u64 i122), (.int .u64 i123), (.int .i64 i124), (.int .i64 i125), (.int .u64 i126), (.int .u32 i127), (.slice p128 n129 c130)]), (.int .i64 0)]) h117))))))))))))))) ∧
    (¬ (0 : Int) ≤ i8 → ((i8 : Int) < 0 → (List.length ([(.int .u64 0), (.string (ByteArray.mk #[])), (.bool false), (.int .u64 0), (.int .u64 0), (.int .u64 0), (.int .i64 0), (.int .i64 0), (.int .u64 0), (.int .u32 0), (.slice none 0 0)] : List Value) = 11) ∧ ∃ h131 : AH, stN h7 h.next 0 ([(.int .u64 0), (.string (ByteArray.mk #[])), (.bool false), (.int .u64 0), (.int .u64 0), (.int .u64 0), (.int .i64 0), (.int .i64 0), (.int .u64 0), (.int .u32 0), (.slice none 0 0)] : List Value) = some h131 ∧
    (∃ i132 : Int, ∃ s133 : ByteArray, ∃ b134 : Bool, ∃ i135 : Int, ∃ i136 : Int, ∃ i137 : Int, ∃ i138 : Int, ∃ i139 : Int, ∃ i140 : Int, ∃ i141 : Int, ∃ (p142 : Option Addr) (n143 c144 : Nat), ldN h131 h.next 0 11 = some ([(.int .u64 i132), (.string s133), (.bool b134), (.int .u64 i135), (.int .u64 i136), (.int .u64 i137), (.int .i64 i138), (.int .i64 i139), (.int .u64 i140), (.int .u32 i141), (.slice p142 n143 c144)] : List Value) ∧
    (Q (.tuple #[(.agg #[(.int .u64 i132), (.string s133), (.bool b134), (.int .u64 i135), (.int .u64 i136), (.int .u64 i137), (.int .i64 i138), (.int .i64 i139), (.int .u64 i140), (.int .u32 i141), (.slice p142 n143 c144)]), (.int .i64 161)]) h131))) ∧
    (¬ (i8 : Int) < 0 → derefP pa0 fun b145 o146 => (((0 : Int) ≤ i8) ∧ ((i8 : Int) < ((na0 : Nat) : Int)) ∧
    (∃ i147 : Int, ∃ s148 : ByteArray, ∃ b149 : Bool, ∃ i150 : Int, ∃ i151 : Int, ∃ i152 : Int, ∃ i153 : Int, ∃ i154 : Int, ∃ i155 : Int, ∃ i156 : Int, ∃ (p157 : Option Addr) (n158 c159 : Nat), ldN h7 b145 (o146 + Int.toNat i8 * 11) 11 = some ([(.int .u64 i147), (.string s148), (.bool b149), (.int .u64 i150), (.int .u64 i151), (.int .u64 i152), (.int .i64 i153), (.int .i64 i154), (.int .u64 i155), (.int .u32 i156), (.slice p157 n158 c159)] : List Value) ∧
    (Wf Try.prog K 44 [(.agg #[(.int .u64 i147), (.string s148), (.bool b149), (.int .u64 i150), (.int .u64 i151), (.int .u64 i152), (.int .i64 i153), (.int .i64 i154), (.int .u64 i155), (.int .u32 i156), (.slice p157 n158 c159)])] h7 fun r160 h161 =>
    (∃ i162 : Int, ∃ s163 : ByteArray, ∃ b164 : Bool, ∃ i165 : Int, ∃ i166 : Int, ∃ i167 : Int, ∃ i168 : Int, ∃ i169 : Int, ∃ i170 : Int, ∃ i171 : Int, ∃ (p172 : Option Addr) (n173 c174 : Nat), r160 = (.agg #[(.int .u64 i162), (.string s163), (.bool b164), (.int .u64 i165), (.int .u64 i166), (.int .u64 i167), (.int .i64 i168), (.int .i64 i169), (.int .u64 i170), (.int .u32 i171), (.slice p172 n173 c174)]) ∧
    ((List.length ([(.int .u64 i162), (.string s163), (.bool b164), (.int .u64 i165), (.int .u64 i166), (.int .u64 i167), (.int .i64 i168), (.int .i64 i169), (.int .u64 i170), (.int .u32 i171), (.slice p172 n173 c174)] : List Value) = 11) ∧ ∃ h175 : AH, stN h161 h.next 0 ([(.int .u64 i162), (.string s163), (.bool b164), (.int .u64 i165), (.int .u64 i166), (.int .u64 i167), (.int .i64 i168), (.int .i64 i169), (.int .u64 i170), (.int .u32 i171), (.slice p172 n173 c174)] : List Value) = some h175 ∧
    (∃ i176 : Int, ∃ s177 : ByteArray, ∃ b178 : Bool, ∃ i179 : Int, ∃ i180 : Int, ∃ i181 : Int, ∃ i182 : Int, ∃ i183 : Int, ∃ i184 : Int, ∃ i185 : Int, ∃ (p186 : Option Addr) (n187 c188 : Nat), ldN h175 h.next 0 11 = some ([(.int .u64 i176), (.string s177), (.bool b178), (.int .u64 i179), (.int .u64 i180), (.int .u64 i181), (.int .i64 i182), (.int .i64 i183), (.int .u64 i184), (.int .u32 i185), (.slice p186 n187 c188)] : List Value) ∧
    (Q (.tuple #[(.agg #[(.int .u64 i176), (.string s177), (.bool b178), (.int .u64 i179), (.int .u64 i180), (.int .u64 i181), (.int .i64 i182), (.int .i64 i183), (.int .u64 i184), (.int .u32 i185), (.slice p186 n187 c188)]), (.int .i64 0)]) h175)))))))))))) ∧
    (¬ (i5 : Int) = 0 → (List.length ([(.int .u64 0), (.string (ByteArray.mk #[])), (.bool false), (.int .u64 0), (.int .u64 0), (.int .u64 0), (.int .i64 0), (.int .i64 0), (.int .u64 0), (.int .u32 0), (.slice none 0 0)] : List Value) = 11) ∧ ∃ h189 : AH, stN h2 h.next 0 ([(.int .u64 0), (.string (ByteArray.mk #[])), (.bool false), (.int .u64 0), (.int .u64 0), (.int .u64 0), (.int .i64 0), (.int .i64 0), (.int .u64 0), (.int .u32 0), (.slice none 0 0)] : List Value) = some h189 ∧
    (∃ i190 : Int, ∃ s191 : ByteArray, ∃ b192 : Bool, ∃ i193 : Int, ∃ i194 : Int, ∃ i195 : Int, ∃ i196 : Int, ∃ i197 : Int, ∃ i198 : Int, ∃ i199 : Int, ∃ (p200 : Option Addr) (n201 c202 : Nat), ldN h189 h.next 0 11 = some ([(.int .u64 i190), (.string s191), (.bool b192), (.int .u64 i193), (.int .u64 i194), (.int .u64 i195), (.int .i64 i196), (.int .i64 i197), (.int .u64 i198), (.int .u32 i199), (.slice p200 n201 c202)] : List Value) ∧
    (Q (.tuple #[(.agg #[(.int .u64 i190), (.string s191), (.bool b192), (.int .u64 i193), (.int .u64 i194), (.int .u64 i195), (.int .i64 i196), (.int .i64 i197), (.int .u64 i198), (.int .u32 i199), (.slice p200 n201 c202)]), (.int .i64 i5)]) h189)))))) :
    Wf Try.prog K 30 [(.slice pa0 na0 ca0), (.string sa1)] h Q :=
  vcF_sound (hs := []) hk (Eq.mpr (by kernel_rfl) H)
theorem vc_family_placeOf {K : Xs} (hk : K 56 = none) (pa0 : Option Addr) (na0 ca0 : Nat) (ia1_0 : Int) (sa1_1 : ByteArray) (h : AH) (Q : Value → AH → Prop) (H :
    ∀ h0 : AH, h0 = h.alloc (.cells ([(.int .u64 ia1_0), (.string sa1_1)] : List Value) 111 false) →
    ∃ I1 : Int → Nat → AH → Prop, (∃ n, I1 0 n h0) ∧
    ∀ (k2 : Nat) (h3 : AH) (i5 : Int), I1 i5 k2 h3 →
    ((i5 : Int) < ((na0 : Nat) : Int) → derefP pa0 fun b6 o7 => (((0 : Int) ≤ i5) ∧ ((i5 : Int) < ((na0 : Nat) : Int)) ∧
    (Wf Try.prog K 66 [(.pointer (some ⟨b6, (o7 + Int.toNat i5 * 11), none⟩))] h3 fun r8 h9 =>
    (∃ i10 : Int, ∃ s11 : ByteArray, r8 = (.agg #[(.int .u64 i10), (.string s11)]) ∧
    (∃ i12 : Int, ∃ s13 : ByteArray, ldN h9 h.next 0 2 = some ([(.int .u64 i12), (.string s13)] : List Value) ∧
    (∃ la14 lb15, keyA Try.prog 111 (.agg #[(.int .u64 i10), (.string s11)]) = some la14 ∧ keyA Try.prog 111 (.agg #[(.int .u64 i12), (.string s13)]) = some lb15 ∧
    (litsEq la14 lb15 = true → (ldN h3 h.next 0 2 = some ([(.int .u64 i12), (.string s13)] : List Value)) ∧
    ((ldN h9 h.next 0 2 = some ([(.int .u64 i12), (.string s13)] : List Value)) ∧
    (Q (.int .i64 i5) h9))) ∧
    (litsEq la14 lb15 = false → (ldN h3 h.next 0 2 = some ([(.int .u64 i12), (.string s13)] : List Value)) ∧
    ((ldN h9 h.next 0 2 = some ([(.int .u64 i12), (.string s13)] : List Value)) ∧
    (∀ i16 : Int, i16 = IntKind.wrap .i64 (i5 + 1) → ∃ j4, j4 < k2 ∧ I1 i16 j4 h9))))))))) ∧
    (¬ (i5 : Int) < ((na0 : Nat) : Int) → Q (.int .i64 (-1)) h3)) :
    Wf Try.prog K 56 [(.slice pa0 na0 ca0), (.agg #[(.int .u64 ia1_0), (.string sa1_1)])] h Q :=
  vcF_sound (hs := [(2, [(8, .int .i64 0)])]) hk (Eq.mpr (by kernel_rfl) H)
theorem vc_family_Next {K : Xs} (hk : K 63 = none) (pa0 : Option Addr) (na0 ca0 : Nat) (ia1 : Int) (h : AH) (Q : Value → AH → Prop) (H :
    ∀ h0 : AH, h0 = h.alloc (.cells ([(.slice pa0 na0 ca0)] : List Value) 47 false) →
    ∀ h1 : AH, h1 = h0.alloc (.cells ([(.int .u64 0)] : List Value) 46 false) →
    ∃ (p2 : Option Addr) (n3 c4 : Nat), ld1 h1 h.next 0 = some (.slice p2 n3 c4) ∧
    (Wf Try.prog K 31 [(.slice p2 n3 c4), (.int .u64 ia1)] h1 fun r5 h6 =>
    (∃ i7 : Int, r5 = (.int .i64 i7) ∧
    (∀ h8 : AH, h8 = h6.alloc (.cells ([(.int .i64 0)] : List Value) 3 false) →
    ∃ h9 : AH, st1 h8 h6.next 0 (.int .i64 i7) = some h9 ∧
    (∃ i10 : Int, ld1 h9 h6.next 0 = some (.int .i64 i10) ∧
    (((i10 : Int) < 0 → ∃ h11 : AH, st1 h9 h0.next 0 (.int .u64 0) = some h11 ∧
    (∃ i12 : Int, ld1 h11 h0.next 0 = some (.int .u64 i12) ∧
    (Q (.int .u64 i12) h11))) ∧
    (¬ (i10 : Int) < 0 → ∃ (p13 : Option Addr) (n14 c15 : Nat), ld1 h9 h.next 0 = some (.slice p13 n14 c15) ∧
    (∃ i16 : Int, ld1 h9 h6.next 0 = some (.int .i64 i16) ∧
    (derefP p13 fun b17 o18 => (((0 : Int) ≤ i16) ∧ ((i16 : Int) < ((n14 : Nat) : Int)) ∧
    (((ld1 h9 b17 ((o18 + Int.toNat i16 * 11) + 2) = some (.bool true) ∧
    (∃ (p19 : Option Addr) (n20 c21 : Nat), ld1 h9 h.next 0 = some (.slice p19 n20 c21) ∧
    (Wf Try.prog K 68 [(.slice p19 n20 c21), (.int .u64 ia1)] h9 fun r22 h23 =>
    (∃ (g24 : FuncId) (cap25 : List Value), r22 = (.func (.func g24) #[] cap25.toArray) ∧
    (∃ (J26 : Nat → AH → Prop) (D27 : AX → AH → Prop) (N28 : Nat) (item29 : Nat → List Value) (G32 B33 : AH → AH → Prop),
    (K g24 = none ∧ ([23] : List Nat) = [23]) ∧
    (∀ i, i < N28 → ∃ i35 : Int, item29 i = [(.int .i64 i35)]) ∧
    (∀ h1 : AH, h1.next = h23.next + 1 → (∀ c, c ≠ h23.next → h1.get c = h23.get c) → J26 0 h1) ∧
    (∀ i h1 h2, J26 i h1 → Near h23.next h1 h2 → J26 i h2) ∧
    (∀ x h1 h2, D27 x h1 → Near h23.next h1 h2 → D27 x h2) ∧
    (∀ i h1 h2, J26 i h1 → G32 h1 h2 → J26 i h2) ∧ (∀ x h1 h2, D27 x h1 → G32 h1 h2 → D27 x h2) ∧ (∀ h1 h2, G32 h1 h2 → h2.get h23.next = h1.get h23.next) ∧
    (∀ (k30 : Nat) (h31 : AH), k30 < N28 → J26 k30 h31 → (∃ L, h31.get h23.next = some (.loop L)) → ∀ (i34 : Int), item29 k30 = [(.int .i64 i34)] →
    AX.normal = AX.normal ∧ (h31.get h23.next = h31.get h23.next) ∧ ∀ h36 : AH, Near h23.next h31 h36 → (∃ L, h36.get h23.next = some (.loop L)) →
    ∃ (p37 : Option Addr) (n38 c39 : Nat), ld1 h36 h.next 0 = some (.slice p37 n38 c39) ∧
    (derefP p37 fun b40 o41 => (((0 : Int) ≤ i34) ∧ ((i34 : Int) < ((n38 : Nat) : Int)) ∧
    (∃ i42 : Int, ld1 h36 b40 ((o41 + Int.toNat i34 * 11) + 3) = some (.int .u64 i42) ∧
    (∃ (p43 : Option Addr) (n44 c45 : Nat), ld1 h36 h.next 0 = some (.slice p43 n44 c45) ∧
    (∃ i46 : Int, ld1 h36 h6.next 0 = some (.int .i64 i46) ∧
    (derefP p43 fun b47 o48 => (((0 : Int) ≤ i46) ∧ ((i46 : Int) < ((n44 : Nat) : Int)) ∧
    (∃ i49 : Int, ld1 h36 b47 ((o48 + Int.toNat i46 * 11) + 3) = some (.int .u64 i49) ∧
    (((i42 : Int) = i49 → ∃ (p50 : Option Addr) (n51 c52 : Nat), ld1 h36 h.next 0 = some (.slice p50 n51 c52) ∧
    (derefP p50 fun b53 o54 => (((0 : Int) ≤ i34) ∧ ((i34 : Int) < ((n51 : Nat) : Int)) ∧
    (∃ i55 : Int, ld1 h36 b53 (o54 + Int.toNat i34 * 11) = some (.int .u64 i55) ∧
    (∃ h56 : AH, st1 h36 h0.next 0 (.int .u64 i55) = some h56 ∧
    ((h56.get h23.next = h36.get h23.next ∧ D27 .ret h56 ∧ ∀ h5, Near h23.next h56 h5 → B33 h31 h5))))))) ∧
    (¬ (i42 : Int) = i49 → (h36.get h23.next = h36.get h23.next ∧ J26 (k30 + 1) h36 ∧ ∀ h5, Near h23.next h36 h5 → B33 h31 h5)))))))))))) ∧
    (∀ (JJ57 : Nat → AH → Prop) (DD58 : AH → Prop), (∀ i h1, JJ57 i h1 → J26 i h1) → (∀ i h1 h2, JJ57 i h1 → G32 h1 h2 → JJ57 i h2) → (∀ h1 h2, DD58 h1 → G32 h1 h2 → DD58 h2) →
    (∀ (k60 : Nat) (h59 : AH), k60 < N28 → JJ57 k60 h59 → Wy Try.prog K h23.next (item29 k60) h59 fun r62 h63 => ((r62 = .bool true ∧ JJ57 (k60 + 1) h63) ∨ (r62 = .bool false ∧ DD58 h63)) ∧ B33 h59 h63) →
    ∀ h61 : AH, JJ57 0 h61 → Wf Try.prog K g24 ([(Value.func (Fn.yield h23.next) #[] #[])] ++ cap25) h61 fun _ h64 => JJ57 N28 h64 ∨ DD58 h64) ∧
    (∀ h65 : AH, J26 N28 h65 → ∃ h66 : AH, st1 (h65.del h23.next) h0.next 0 (.int .u64 0) = some h66 ∧
    (∃ i67 : Int, ld1 h66 h0.next 0 = some (.int .u64 i67) ∧
    (Q (.int .u64 i67) h66))) ∧
    (∀ h68 : AH, D27 .ret h68 → ∃ i70 : Int, ld1 (h68.del h23.next) h0.next 0 = some (.int .u64 i70) ∧
    (Q (.int .u64 i70) (h68.del h23.next))) ∧
    (∀ (x69 : AX) (h68 : AH), x69 ≠ .normal → D27 x69 h68 → memAX x69 [.ret] = true)))))) ∨ (ld1 h9 b17 ((o18 + Int.toNat i16 * 11) + 2) = some (.bool false) ∧
    (∃ h71 : AH, st1 h9 h0.next 0 (.int .u64 0) = some h71 ∧
    (∃ i72 : Int, ld1 h71 h0.next 0 = some (.int .u64 i72) ∧
    (Q (.int .u64 i72) h71)))))))))))))))) :
    Wf Try.prog K 63 [(.slice pa0 na0 ca0), (.int .u64 ia1)] h Q :=
  vcF_sound (hs := [(5, [(23, .int .i64 0)])]) hk (Eq.mpr (by kernel_rfl) H)
theorem vc_family_Full {K : Xs} (hk : K 16 = none) (pa0 : Option Addr) (na0 ca0 : Nat) (ia1 : Int) (h : AH) (Q : Value → AH → Prop) (H :
    Wf Try.prog K 31 [(.slice pa0 na0 ca0), (.int .u64 ia1)] h fun r0 h1 =>
    (∃ i2 : Int, r0 = (.int .i64 i2) ∧
    (((i2 : Int) < 0 → Q (.string (ByteArray.mk #[])) h1) ∧
    (¬ (i2 : Int) < 0 → derefP pa0 fun b3 o4 => (((0 : Int) ≤ i2) ∧ ((i2 : Int) < ((na0 : Nat) : Int)) ∧
    (((ld1 h1 b3 ((o4 + Int.toNat i2 * 11) + 2) = some (.bool true) ∧
    (derefP pa0 fun b5 o6 => (((0 : Int) ≤ i2) ∧ ((i2 : Int) < ((na0 : Nat) : Int)) ∧
    (∃ i7 : Int, ld1 h1 b5 ((o6 + Int.toNat i2 * 11) + 3) = some (.int .u64 i7) ∧
    (Wf Try.prog K 31 [(.slice pa0 na0 ca0), (.int .u64 i7)] h1 fun r8 h9 =>
    (∃ i10 : Int, r8 = (.int .i64 i10) ∧
    (((i10 : Int) < 0 → Q (.string (ByteArray.mk #[])) h9) ∧
    (¬ (i10 : Int) < 0 → derefP pa0 fun b11 o12 => (((0 : Int) ≤ i10) ∧ ((i10 : Int) < ((na0 : Nat) : Int)) ∧
    (∃ s13 : ByteArray, ld1 h9 b11 ((o12 + Int.toNat i10 * 11) + 1) = some (.string s13) ∧
    (derefP pa0 fun b14 o15 => (((0 : Int) ≤ i2) ∧ ((i2 : Int) < ((na0 : Nat) : Int)) ∧
    (∃ s16 : ByteArray, ld1 h9 b14 ((o15 + Int.toNat i2 * 11) + 1) = some (.string s16) ∧
    (Wf Try.prog K 32 [(.string s13), (.string s16)] h9 fun r17 h18 =>
    (∃ s19 : ByteArray, r17 = (.string s19) ∧
    (Q (.string s19) h18)))))))))))))))) ∨ (ld1 h1 b3 ((o4 + Int.toNat i2 * 11) + 2) = some (.bool false) ∧
    (derefP pa0 fun b20 o21 => (((0 : Int) ≤ i2) ∧ ((i2 : Int) < ((na0 : Nat) : Int)) ∧
    (∃ s22 : ByteArray, ld1 h1 b20 ((o21 + Int.toNat i2 * 11) + 1) = some (.string s22) ∧
    (Wf Try.prog K 32 [(.string s22), (.string (ByteArray.mk #[]))] h1 fun r23 h24 =>
    (∃ s25 : ByteArray, r23 = (.string s25) ∧
    (Q (.string s25) h24)))))))))))))) :
    Wf Try.prog K 16 [(.slice pa0 na0 ca0), (.int .u64 ia1)] h Q :=
  vcF_sound (hs := []) hk (Eq.mpr (by kernel_rfl) H)
theorem vc_entry_Copy {K : Xs} (hk : K 44 = none) (ia0_0 : Int) (sa0_1 : ByteArray) (ba0_2 : Bool) (ia0_3 : Int) (ia0_4 : Int) (ia0_5 : Int) (ia0_6 : Int) (ia0_7 : Int) (ia0_8 : Int) (ia0_9 : Int) (pa0_10 : Option Addr) (na0_10 ca0_10 : Nat) (h : AH) (Q : Value → AH → Prop) (H :
    ∀ h0 : AH, h0 = h.alloc (.cells ([(.int .u64 ia0_0), (.string sa0_1), (.bool ba0_2), (.int .u64 ia0_3), (.int .u64 ia0_4), (.int .u64 ia0_5), (.int .i64 ia0_6), (.int .i64 ia0_7), (.int .u64 ia0_8), (.int .u32 ia0_9), (.slice pa0_10 na0_10 ca0_10)] : List Value) 59 false) →
    ∀ h1 : AH, h1 = h0.alloc (.cells ([(.int .u64 0), (.string (ByteArray.mk #[])), (.bool false), (.int .u64 0), (.int .u64 0), (.int .u64 0), (.int .i64 0), (.int .i64 0), (.int .u64 0), (.int .u32 0), (.slice none 0 0)] : List Value) 59 false) →
    ∃ (p2 : Option Addr) (n3 c4 : Nat), ld1 h1 h.next 10 = some (.slice p2 n3 c4) ∧
    (∃ (p5 : Option Addr) (n6 c7 : Nat) (h8 : AH), aBuiltin Try.prog h1 .append #[57, 57] [(.slice none 0 0), (.slice p2 n3 c4)] = some (.slice p5 n6 c7, h8) ∧
    (∃ h9 : AH, st1 h8 h.next 10 (.slice p5 n6 c7) = some h9 ∧
    (∃ i10 : Int, ∃ s11 : ByteArray, ∃ b12 : Bool, ∃ i13 : Int, ∃ i14 : Int, ∃ i15 : Int, ∃ i16 : Int, ∃ i17 : Int, ∃ i18 : Int, ∃ i19 : Int, ∃ (p20 : Option Addr) (n21 c22 : Nat), ldN h9 h.next 0 11 = some ([(.int .u64 i10), (.string s11), (.bool b12), (.int .u64 i13), (.int .u64 i14), (.int .u64 i15), (.int .i64 i16), (.int .i64 i17), (.int .u64 i18), (.int .u32 i19), (.slice p20 n21 c22)] : List Value) ∧
    ((List.length ([(.int .u64 i10), (.string s11), (.bool b12), (.int .u64 i13), (.int .u64 i14), (.int .u64 i15), (.int .i64 i16), (.int .i64 i17), (.int .u64 i18), (.int .u32 i19), (.slice p20 n21 c22)] : List Value) = 11) ∧ ∃ h23 : AH, stN h9 h0.next 0 ([(.int .u64 i10), (.string s11), (.bool b12), (.int .u64 i13), (.int .u64 i14), (.int .u64 i15), (.int .i64 i16), (.int .i64 i17), (.int .u64 i18), (.int .u32 i19), (.slice p20 n21 c22)] : List Value) = some h23 ∧
    (∃ i24 : Int, ∃ s25 : ByteArray, ∃ b26 : Bool, ∃ i27 : Int, ∃ i28 : Int, ∃ i29 : Int, ∃ i30 : Int, ∃ i31 : Int, ∃ i32 : Int, ∃ i33 : Int, ∃ (p34 : Option Addr) (n35 c36 : Nat), ldN h23 h0.next 0 11 = some ([(.int .u64 i24), (.string s25), (.bool b26), (.int .u64 i27), (.int .u64 i28), (.int .u64 i29), (.int .i64 i30), (.int .i64 i31), (.int .u64 i32), (.int .u32 i33), (.slice p34 n35 c36)] : List Value) ∧
    (Q (.agg #[(.int .u64 i24), (.string s25), (.bool b26), (.int .u64 i27), (.int .u64 i28), (.int .u64 i29), (.int .i64 i30), (.int .i64 i31), (.int .u64 i32), (.int .u32 i33), (.slice p34 n35 c36)]) h23))))))) :
    Wf Try.prog K 44 [(.agg #[(.int .u64 ia0_0), (.string sa0_1), (.bool ba0_2), (.int .u64 ia0_3), (.int .u64 ia0_4), (.int .u64 ia0_5), (.int .i64 ia0_6), (.int .i64 ia0_7), (.int .u64 ia0_8), (.int .u32 ia0_9), (.slice pa0_10 na0_10 ca0_10)])] h Q :=
  vcF_sound (hs := []) hk (Eq.mpr (by kernel_rfl) H)
theorem vc_name_Split {K : Xs} (hk : K 52 = none) (sa0 : ByteArray) (h : AH) (Q : Value → AH → Prop) (H :
    Wf Try.prog K 60 [(.string sa0), (.string (ByteArray.mk #[64]))] h fun r0 h1 =>
    (∃ s2 : ByteArray, ∃ s3 : ByteArray, ((r0 = (.tuple #[(.string s2), (.string s3), (.bool true)]) ∧
    (Wf Try.prog K 57 [(.string s2)] h1 fun r4 h5 =>
    (((r4 = (.bool true) ∧
    (Wf Try.prog K 57 [(.string s3)] h5 fun r6 h7 =>
    (((r6 = (.bool true) ∧
    (Q (.tuple #[(.string s2), (.string s3), (.int .i64 0)]) h7)) ∨ (r6 = (.bool false) ∧
    (Q (.tuple #[(.string (ByteArray.mk #[])), (.string (ByteArray.mk #[])), (.int .i64 141)]) h7)))))) ∨ (r4 = (.bool false) ∧
    (Q (.tuple #[(.string (ByteArray.mk #[])), (.string (ByteArray.mk #[])), (.int .i64 141)]) h5)))))) ∨ (r0 = (.tuple #[(.string s2), (.string s3), (.bool false)]) ∧
    (Wf Try.prog K 57 [(.string s2)] h1 fun r8 h9 =>
    (((r8 = (.bool true) ∧
    (Q (.tuple #[(.string s2), (.string s3), (.int .i64 0)]) h9)) ∨ (r8 = (.bool false) ∧
    (Q (.tuple #[(.string (ByteArray.mk #[])), (.string (ByteArray.mk #[])), (.int .i64 141)]) h9))))))))) :
    Wf Try.prog K 52 [(.string sa0)] h Q :=
  vcF_sound (hs := []) hk (Eq.mpr (by kernel_rfl) H)
theorem vc_name_Right {K : Xs} (hk : K 57 = none) (sa0 : ByteArray) (h : AH) (Q : Value → AH → Prop) (H :
    ((((ByteArray.size sa0 : Nat) : Int) : Int) < 1 → Q (.bool false) h) ∧
    (¬ (((ByteArray.size sa0 : Nat) : Int) : Int) < 1 → ((24 : Int) < ((ByteArray.size sa0 : Nat) : Int) → Q (.bool false) h) ∧
    (¬ (24 : Int) < ((ByteArray.size sa0 : Nat) : Int) → ∀ h0 : AH, h0 = h.alloc (.siter sa0 0) →
    ∃ I1 : Nat → AH → Prop, (∃ n, I1 n h0) ∧
    ∀ (k2 : Nat) (h3 : AH), I1 k2 h3 →
    ((0 : Nat) = 0) ∧ ∃ (s5 : ByteArray) (pos6 : Nat), h3.get h.next = some (.siter s5 pos6) ∧
    (pos6 < s5.size → ∀ h7 : AH, h7 = h3.set h.next (.siter s5 (pos6 + (Utf8.decode s5 pos6).2)) → ((97 : Int) ≤ (Utf8.decode s5 pos6).1 → (((Utf8.decode s5 pos6).1 : Int) ≤ 122 → ∃ j4, j4 < k2 ∧ I1 j4 h7) ∧
    (¬ ((Utf8.decode s5 pos6).1 : Int) ≤ 122 → ((48 : Int) ≤ (Utf8.decode s5 pos6).1 → (((Utf8.decode s5 pos6).1 : Int) ≤ 57 → ∃ j4, j4 < k2 ∧ I1 j4 h7) ∧
    (¬ ((Utf8.decode s5 pos6).1 : Int) ≤ 57 → (((Utf8.decode s5 pos6).1 : Int) = 45 → ∃ j4, j4 < k2 ∧ I1 j4 h7) ∧
    (¬ ((Utf8.decode s5 pos6).1 : Int) = 45 → (((Utf8.decode s5 pos6).1 : Int) = 95 → ∃ j4, j4 < k2 ∧ I1 j4 h7) ∧
    (¬ ((Utf8.decode s5 pos6).1 : Int) = 95 → Q (.bool false) h7)))) ∧
    (¬ (48 : Int) ≤ (Utf8.decode s5 pos6).1 → (((Utf8.decode s5 pos6).1 : Int) = 45 → ∃ j4, j4 < k2 ∧ I1 j4 h7) ∧
    (¬ ((Utf8.decode s5 pos6).1 : Int) = 45 → (((Utf8.decode s5 pos6).1 : Int) = 95 → ∃ j4, j4 < k2 ∧ I1 j4 h7) ∧
    (¬ ((Utf8.decode s5 pos6).1 : Int) = 95 → Q (.bool false) h7))))) ∧
    (¬ (97 : Int) ≤ (Utf8.decode s5 pos6).1 → ((48 : Int) ≤ (Utf8.decode s5 pos6).1 → (((Utf8.decode s5 pos6).1 : Int) ≤ 57 → ∃ j4, j4 < k2 ∧ I1 j4 h7) ∧
    (¬ ((Utf8.decode s5 pos6).1 : Int) ≤ 57 → (((Utf8.decode s5 pos6).1 : Int) = 45 → ∃ j4, j4 < k2 ∧ I1 j4 h7) ∧
    (¬ ((Utf8.decode s5 pos6).1 : Int) = 45 → (((Utf8.decode s5 pos6).1 : Int) = 95 → ∃ j4, j4 < k2 ∧ I1 j4 h7) ∧
    (¬ ((Utf8.decode s5 pos6).1 : Int) = 95 → Q (.bool false) h7)))) ∧
    (¬ (48 : Int) ≤ (Utf8.decode s5 pos6).1 → (((Utf8.decode s5 pos6).1 : Int) = 45 → ∃ j4, j4 < k2 ∧ I1 j4 h7) ∧
    (¬ ((Utf8.decode s5 pos6).1 : Int) = 45 → (((Utf8.decode s5 pos6).1 : Int) = 95 → ∃ j4, j4 < k2 ∧ I1 j4 h7) ∧
    (¬ ((Utf8.decode s5 pos6).1 : Int) = 95 → Q (.bool false) h7))))) ∧
    (¬ pos6 < s5.size → Q (.bool true) h3)))) :
    Wf Try.prog K 57 [(.string sa0)] h Q :=
  vcF_sound (hs := [(4, [])]) hk (Eq.mpr (by kernel_rfl) H)
theorem vc_name_Full {K : Xs} (hk : K 32 = none) (sa0 : ByteArray) (sa1 : ByteArray) (h : AH) (Q : Value → AH → Prop) (H :
    Wf Try.prog K 57 [(.string sa0)] h fun r0 h1 =>
    (((r0 = (.bool true) ∧
    ((sa1 = (ByteArray.mk #[]) → Q (.string sa0) h1) ∧
    (¬ sa1 = (ByteArray.mk #[]) → Wf Try.prog K 57 [(.string sa1)] h1 fun r2 h3 =>
    (((r2 = (.bool true) ∧
    ((((ByteArray.size sa0 + ByteArray.size (ByteArray.mk #[64]) : Nat) : Int) ≤ 9223372036854775807) ∧ ∀ s4 : ByteArray, s4 = sa0 ++ (ByteArray.mk #[64]) → (((ByteArray.size s4 + ByteArray.size sa1 : Nat) : Int) ≤ 9223372036854775807) ∧ ∀ s5 : ByteArray, s5 = s4 ++ sa1 → Q (.string s5) h3)) ∨ (r2 = (.bool false) ∧
    (Q (.string (ByteArray.mk #[])) h3))))))) ∨ (r0 = (.bool false) ∧
    (Q (.string (ByteArray.mk #[])) h1))))) :
    Wf Try.prog K 32 [(.string sa0), (.string sa1)] h Q :=
  vcF_sound (hs := []) hk (Eq.mpr (by kernel_rfl) H)
theorem vc_ptr_Less {K : Xs} (hk : K 70 = none) (ia0_0 : Int) (ia0_1 : Int) (ia0_2 : Int) (ia1_0 : Int) (ia1_1 : Int) (ia1_2 : Int) (h : AH) (Q : Value → AH → Prop) (H :
    ∀ h0 : AH, h0 = h.alloc (.cells ([(.int .i64 ia0_0), (.int .u64 ia0_1), (.int .u32 ia0_2)] : List Value) 56 false) →
    ∀ h1 : AH, h1 = h0.alloc (.cells ([(.int .i64 ia1_0), (.int .u64 ia1_1), (.int .u32 ia1_2)] : List Value) 56 false) →
    ∃ i2 : Int, ld1 h1 h.next 1 = some (.int .u64 i2) ∧
    (∃ i3 : Int, ld1 h1 h0.next 1 = some (.int .u64 i3) ∧
    (((i2 : Int) = i3 → ∃ i4 : Int, ld1 h1 h.next 0 = some (.int .i64 i4) ∧
    (∃ i5 : Int, ld1 h1 h0.next 0 = some (.int .i64 i5) ∧
    (((i4 : Int) = i5 → ∃ i6 : Int, ld1 h1 h.next 2 = some (.int .u32 i6) ∧
    (∃ i7 : Int, ld1 h1 h0.next 2 = some (.int .u32 i7) ∧
    (((i6 : Int) < i7 → Q (.bool true) h1) ∧
    (¬ (i6 : Int) < i7 → Q (.bool false) h1)))) ∧
    (¬ (i4 : Int) = i5 → ∃ i8 : Int, ld1 h1 h.next 0 = some (.int .i64 i8) ∧
    (∃ i9 : Int, ld1 h1 h0.next 0 = some (.int .i64 i9) ∧
    (((i8 : Int) < i9 → Q (.bool true) h1) ∧
    (¬ (i8 : Int) < i9 → Q (.bool false) h1))))))) ∧
    (¬ (i2 : Int) = i3 → ∃ i10 : Int, ld1 h1 h.next 1 = some (.int .u64 i10) ∧
    (∃ i11 : Int, ld1 h1 h0.next 1 = some (.int .u64 i11) ∧
    (((i10 : Int) < i11 → Q (.bool true) h1) ∧
    (¬ (i10 : Int) < i11 → Q (.bool false) h1))))))) :
    Wf Try.prog K 70 [(.agg #[(.int .i64 ia0_0), (.int .u64 ia0_1), (.int .u32 ia0_2)]), (.agg #[(.int .i64 ia1_0), (.int .u64 ia1_1), (.int .u32 ia1_2)])] h Q :=
  vcF_sound (hs := []) hk (Eq.mpr (by kernel_rfl) H)
theorem vc_strings_Cut {K : Xs} (hk : K 60 = none) (sa0 : ByteArray) (sa1 : ByteArray) (h : AH) (Q : Value → AH → Prop) (H :
    Wf Try.prog K 67 [(.string sa0), (.string sa1)] h fun r0 h1 =>
    (∃ s2 : ByteArray, ∃ s3 : ByteArray, ((r0 = (.tuple #[(.string s2), (.string s3), (.bool true)]) ∧
    (Q (.tuple #[(.string s2), (.string s3), (.bool true)]) h1)) ∨ (r0 = (.tuple #[(.string s2), (.string s3), (.bool false)]) ∧
    (Q (.tuple #[(.string s2), (.string s3), (.bool false)]) h1))))) :
    Wf Try.prog K 60 [(.string sa0), (.string sa1)] h Q :=
  vcF_sound (hs := []) hk (Eq.mpr (by kernel_rfl) H)
theorem vc_stringslite_Cut {K : Xs} (hk : K 67 = none) (sa0 : ByteArray) (sa1 : ByteArray) (h : AH) (Q : Value → AH → Prop) (H :
    Wf Try.prog K 71 [(.string sa0), (.string sa1)] h fun r0 h1 =>
    (∃ i2 : Int, r0 = (.int .i64 i2) ∧
    (((0 : Int) ≤ i2 → ∃ s3 : ByteArray, aSlice Try.prog h1 9 (.string sa0) none (some (.int .i64 i2)) none = some (.string s3) ∧
    (∀ i4 : Int, i4 = IntKind.wrap .i64 (i2 + ((ByteArray.size sa1 : Nat) : Int)) → ∃ s5 : ByteArray, aSlice Try.prog h1 9 (.string sa0) (some (.int .i64 i4)) none none = some (.string s5) ∧
    (Q (.tuple #[(.string s3), (.string s5), (.bool true)]) h1))) ∧
    (¬ (0 : Int) ≤ i2 → Q (.tuple #[(.string sa0), (.string (ByteArray.mk #[])), (.bool false)]) h1)))) :
    Wf Try.prog K 67 [(.string sa0), (.string sa1)] h Q :=
  vcF_sound (hs := []) hk (Eq.mpr (by kernel_rfl) H)
theorem vc_stringslite_Index {K : Xs} (hk : K 71 = none) (sa0 : ByteArray) (sa1 : ByteArray) (h : AH) (Q : Value → AH → Prop) (H :
    ((((ByteArray.size sa1 : Nat) : Int) : Int) = 0 → Q (.int .i64 0) h) ∧
    (¬ (((ByteArray.size sa1 : Nat) : Int) : Int) = 0 → (sa1 = sa0 → Q (.int .i64 0) h) ∧
    (¬ sa1 = sa0 → ((((ByteArray.size sa1 : Nat) : Int) : Int) = 1 → ((0 : Int) ≤ 0) ∧ ∃ c0 : UInt8, sa1[Int.toNat 0]? = some c0 ∧
    (Wf Try.prog K 73 [(.string sa0), (.int .u8 ((c0.toNat : Nat) : Int))] h fun r1 h2 =>
    (∃ i3 : Int, r1 = (.int .i64 i3) ∧
    (Q (.int .i64 i3) h2)))) ∧
    (¬ (((ByteArray.size sa1 : Nat) : Int) : Int) = 1 → ((((ByteArray.size sa0 : Nat) : Int) : Int) ≤ ((ByteArray.size sa1 : Nat) : Int) → Q (.int .i64 (-1)) h) ∧
    (¬ (((ByteArray.size sa0 : Nat) : Int) : Int) ≤ ((ByteArray.size sa1 : Nat) : Int) → False))))) :
    Wf Try.prog K 71 [(.string sa0), (.string sa1)] h Q :=
  vcF_sound (hs := []) hk (Eq.mpr (by kernel_rfl) H)
theorem vc_stringslite_IndexByte {K : Xs} (hk : K 73 = none) (sa0 : ByteArray) (ia1 : Int) (h : AH) (Q : Value → AH → Prop) (H :
    Wf Try.prog K 77 [(.string sa0), (.int .u8 ia1)] h fun r0 h1 =>
    (∃ i2 : Int, r0 = (.int .i64 i2) ∧
    (Q (.int .i64 i2) h1))) :
    Wf Try.prog K 73 [(.string sa0), (.int .u8 ia1)] h Q :=
  vcF_sound (hs := []) hk (Eq.mpr (by kernel_rfl) H)
end Go.Am
