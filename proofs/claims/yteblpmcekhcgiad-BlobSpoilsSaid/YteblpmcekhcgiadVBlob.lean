/-
  WEAKEST CONDITIONS of some functions of this program, printed by a program.
-/
import Derived.Test.YteblpmcekhcgiadAmG
import Derived.Test.YteblpmcekhcgiadRows
set_option linter.unusedVariables false
set_option maxRecDepth 100000
namespace Go.Am
open Go.Proofs
theorem vc_blob_up_int_ {K : Xs} (hk : K 30 = none) (ia0 : Int) (ia1 : Int) (h : AH) (Q : Value → AH → Prop) (H :
    ∀ i0 : Int, i0 = IntKind.wrap .i64 (ia0 + ia1) → ∀ i1 : Int, i1 = IntKind.wrap .i64 (i0 - 1) → (ia1 ≠ (0 : Int)) ∧ (∀ i2 : Int, i2 = IntKind.wrap .i64 (Int.tdiv i1 ia1) → Q (.int .i64 i2) h)) :
    Wf Try.prog K 30 [(.int .i64 ia0), (.int .i64 ia1)] h Q :=
  vcF_sound (hs := []) hk (Eq.mpr (by kernel_rfl) H)
theorem vc_blob_levels {K : Xs} (hk : K 17 = none) (ia0 : Int) (h : AH) (Q : Value → AH → Prop) (H :
    ((ia0 : Int) < 1 → Q (.slice none 0 0) h) ∧
    (¬ (ia0 : Int) < 1 → ((65535 : Int) < ia0 → Q (.slice none 0 0) h) ∧
    (¬ (65535 : Int) < ia0 → Wf Try.prog K 30 [(.int .i64 ia0), (.int .i64 128)] h fun r0 h1 =>
    (∃ i2 : Int, r0 = (.int .i64 i2) ∧
    (∀ h3 : AH, h3 = h1.alloc (.cells ([(.int .i64 i2)] : List Value) 3 false) →
    ∃ I4 : Int → Option Addr → Nat → Nat → Nat → AH → Prop, (∃ n, I4 i2 (some ⟨h1.next, 0, none⟩) 1 1 n h3) ∧
    ∀ (k5 : Nat) (h6 : AH) (i8 : Int) (p9 : Option Addr) (n10 : Nat) (c11 : Nat), I4 i8 p9 n10 c11 k5 h6 →
    ((1 : Int) < i8 → Wf Try.prog K 30 [(.int .i64 i8), (.int .i64 8)] h6 fun r12 h13 =>
    (∃ i14 : Int, r12 = (.int .i64 i14) ∧
    (∀ h15 : AH, h15 = h13.alloc (.cells ([(.int .i64 i14)] : List Value) 3 false) →
    ∃ (p16 : Option Addr) (n17 c18 : Nat) (h19 : AH), aBuiltin Try.prog h15 .append #[27, 27] [(.slice p9 n10 c11), (.slice (some ⟨h13.next, 0, none⟩) 1 1)] = some (.slice p16 n17 c18, h19) ∧
    (∃ j7, j7 < k5 ∧ I4 i14 p16 n17 c18 j7 h19)))) ∧
    (¬ (1 : Int) < i8 → Q (.slice p9 n10 c11) h6)))))) :
    Wf Try.prog K 17 [(.int .i64 ia0)] h Q :=
  vcF_sound (hs := [(5, [(3, .int .i64 0), (4, .slice none 0 0)])]) hk (Eq.mpr (by kernel_rfl) H)
theorem vc_blob_Need {K : Xs} (hk : K 7 = none) (ia0 : Int) (h : AH) (Q : Value → AH → Prop) (H :
    Wf Try.prog K 17 [(.int .i64 ia0)] h fun r0 h1 =>
    (∃ (p2 : Option Addr) (n3 c4 : Nat), r0 = (.slice p2 n3 c4) ∧
    (∃ I5 : Int → Int → Nat → AH → Prop, (∃ n, I5 0 0 n h1) ∧
    ∀ (k6 : Nat) (h7 : AH) (i9 : Int) (i10 : Int), I5 i9 i10 k6 h7 →
    ((i10 : Int) < ((n3 : Nat) : Int) → derefP p2 fun b11 o12 => (((0 : Int) ≤ i10) ∧ ((i10 : Int) < ((n3 : Nat) : Int)) ∧
    (∃ i13 : Int, ld1 h7 b11 (o12 + Int.toNat i10 * 1) = some (.int .i64 i13) ∧
    (∀ i14 : Int, i14 = IntKind.wrap .i64 (i9 + i13) → ∀ i15 : Int, i15 = IntKind.wrap .i64 (i10 + 1) → ∃ j8, j8 < k6 ∧ I5 i14 i15 j8 h7)))) ∧
    (¬ (i10 : Int) < ((n3 : Nat) : Int) → Q (.int .i64 i9) h7)))) :
    Wf Try.prog K 7 [(.int .i64 ia0)] h Q :=
  vcF_sound (hs := [(3, [(3, .int .i64 0), (9, .int .i64 0)])]) hk (Eq.mpr (by kernel_rfl) H)
theorem vc_blob_Save {K : Xs} (hk : K 11 = none) (pa0 : Option Addr) (pa1 : Option Addr) (na1 ca1 : Nat) (pa2 : Option Addr) (na2 ca2 : Nat) (h : AH) (Q : Value → AH → Prop) (H :
    ∀ h0 : AH, h0 = h.alloc (.cells ([(.int .i64 0), (.int .u64 0), (.int .u32 0)] : List Value) 36 false) →
    Wf Try.prog K 7 [(.int .i64 ((na1 : Nat) : Int))] h0 fun r1 h2 =>
    (∃ i3 : Int, r1 = (.int .i64 i3) ∧
    (((i3 : Int) = 0 → (List.length ([(.int .i64 0), (.int .u64 0), (.int .u32 0)] : List Value) = 3) ∧ ∃ h4 : AH, stN h2 h.next 0 ([(.int .i64 0), (.int .u64 0), (.int .u32 0)] : List Value) = some h4 ∧
    (∃ i5 : Int, ∃ i6 : Int, ∃ i7 : Int, ldN h4 h.next 0 3 = some ([(.int .i64 i5), (.int .u64 i6), (.int .u32 i7)] : List Value) ∧
    (Q (.tuple #[(.agg #[(.int .i64 i5), (.int .u64 i6), (.int .u32 i7)]), (.int .i64 121)]) h4))) ∧
    (¬ (i3 : Int) = 0 → ((((na2 : Nat) : Int) : Int) = i3 → Wf Try.prog K 23 [(.pointer pa0), (.slice pa1 na1 ca1), (.slice pa2 na2 ca2)] h2 fun r8 h9 =>
    (∃ (p10 : Option Addr) (n11 c12 : Nat), ∃ i13 : Int, r8 = (.tuple #[(.slice p10 n11 c12), (.int .i64 i13)]) ∧
    (∃ (p14 : Option Addr) (n15 c16 : Nat), aSlice Try.prog h9 27 (.slice pa2 na2 ca2) (some (.int .i64 ((n11 : Nat) : Int))) none none = some (.slice p14 n15 c16) ∧
    (∃ I17 : Option Addr → Nat → Nat → Option Addr → Nat → Nat → Int → Nat → AH → Prop, (∃ n, I17 p14 n15 c16 p10 n11 c12 i13 n h9) ∧
    ∀ (k18 : Nat) (h19 : AH) (p21 : Option Addr) (n22 : Nat) (c23 : Nat) (p24 : Option Addr) (n25 : Nat) (c26 : Nat) (i27 : Int), I17 p21 n22 c23 p24 n25 c26 i27 k18 h19 →
    ((i27 : Int) = 0 → ((1 : Int) < ((n25 : Nat) : Int) → Wf Try.prog K 24 [(.pointer pa0), (.slice p24 n25 c26), (.slice p21 n22 c23)] h19 fun r28 h29 =>
    (∃ (p30 : Option Addr) (n31 c32 : Nat), ∃ i33 : Int, r28 = (.tuple #[(.slice p30 n31 c32), (.int .i64 i33)]) ∧
    (∃ (p34 : Option Addr) (n35 c36 : Nat), aSlice Try.prog h29 27 (.slice p21 n22 c23) (some (.int .i64 ((n31 : Nat) : Int))) none none = some (.slice p34 n35 c36) ∧
    (∃ j20, j20 < k18 ∧ I17 p34 n35 c36 p30 n31 c32 i33 j20 h29)))) ∧
    (¬ (1 : Int) < ((n25 : Nat) : Int) → ((i27 : Int) = 0 → derefP p24 fun b37 o38 => (((0 : Int) ≤ 0) ∧ ((0 : Int) < ((n25 : Nat) : Int)) ∧
    (∃ i39 : Int, ∃ i40 : Int, ∃ i41 : Int, ldN h19 b37 o38 3 = some ([(.int .i64 i39), (.int .u64 i40), (.int .u32 i41)] : List Value) ∧
    ((List.length ([(.int .i64 i39), (.int .u64 i40), (.int .u32 i41)] : List Value) = 3) ∧ ∃ h42 : AH, stN h19 h.next 0 ([(.int .i64 i39), (.int .u64 i40), (.int .u32 i41)] : List Value) = some h42 ∧
    (∃ i43 : Int, ∃ i44 : Int, ∃ i45 : Int, ldN h42 h.next 0 3 = some ([(.int .i64 i43), (.int .u64 i44), (.int .u32 i45)] : List Value) ∧
    (Q (.tuple #[(.agg #[(.int .i64 i43), (.int .u64 i44), (.int .u32 i45)]), (.int .i64 0)]) h42)))))) ∧
    (¬ (i27 : Int) = 0 → (List.length ([(.int .i64 0), (.int .u64 0), (.int .u32 0)] : List Value) = 3) ∧ ∃ h46 : AH, stN h19 h.next 0 ([(.int .i64 0), (.int .u64 0), (.int .u32 0)] : List Value) = some h46 ∧
    (∃ i47 : Int, ∃ i48 : Int, ∃ i49 : Int, ldN h46 h.next 0 3 = some ([(.int .i64 i47), (.int .u64 i48), (.int .u32 i49)] : List Value) ∧
    (Q (.tuple #[(.agg #[(.int .i64 i47), (.int .u64 i48), (.int .u32 i49)]), (.int .i64 i27)]) h46))))) ∧
    (¬ (i27 : Int) = 0 → ((i27 : Int) = 0 → derefP p24 fun b50 o51 => (((0 : Int) ≤ 0) ∧ ((0 : Int) < ((n25 : Nat) : Int)) ∧
    (∃ i52 : Int, ∃ i53 : Int, ∃ i54 : Int, ldN h19 b50 o51 3 = some ([(.int .i64 i52), (.int .u64 i53), (.int .u32 i54)] : List Value) ∧
    ((List.length ([(.int .i64 i52), (.int .u64 i53), (.int .u32 i54)] : List Value) = 3) ∧ ∃ h55 : AH, stN h19 h.next 0 ([(.int .i64 i52), (.int .u64 i53), (.int .u32 i54)] : List Value) = some h55 ∧
    (∃ i56 : Int, ∃ i57 : Int, ∃ i58 : Int, ldN h55 h.next 0 3 = some ([(.int .i64 i56), (.int .u64 i57), (.int .u32 i58)] : List Value) ∧
    (Q (.tuple #[(.agg #[(.int .i64 i56), (.int .u64 i57), (.int .u32 i58)]), (.int .i64 0)]) h55)))))) ∧
    (¬ (i27 : Int) = 0 → (List.length ([(.int .i64 0), (.int .u64 0), (.int .u32 0)] : List Value) = 3) ∧ ∃ h59 : AH, stN h19 h.next 0 ([(.int .i64 0), (.int .u64 0), (.int .u32 0)] : List Value) = some h59 ∧
    (∃ i60 : Int, ∃ i61 : Int, ∃ i62 : Int, ldN h59 h.next 0 3 = some ([(.int .i64 i60), (.int .u64 i61), (.int .u32 i62)] : List Value) ∧
    (Q (.tuple #[(.agg #[(.int .i64 i60), (.int .u64 i61), (.int .u32 i62)]), (.int .i64 i27)]) h59)))))))) ∧
    (¬ (((na2 : Nat) : Int) : Int) = i3 → (List.length ([(.int .i64 0), (.int .u64 0), (.int .u32 0)] : List Value) = 3) ∧ ∃ h63 : AH, stN h2 h.next 0 ([(.int .i64 0), (.int .u64 0), (.int .u32 0)] : List Value) = some h63 ∧
    (∃ i64 : Int, ∃ i65 : Int, ∃ i66 : Int, ldN h63 h.next 0 3 = some ([(.int .i64 i64), (.int .u64 i65), (.int .u32 i66)] : List Value) ∧
    (Q (.tuple #[(.agg #[(.int .i64 i64), (.int .u64 i65), (.int .u32 i66)]), (.int .i64 121)]) h63))))))) :
    Wf Try.prog K 11 [(.pointer pa0), (.slice pa1 na1 ca1), (.slice pa2 na2 ca2)] h Q :=
  vcF_sound (hs := [(6, [(2, .slice none 0 0), (9, .slice none 0 0), (10, .int .i64 0)])]) hk (Eq.mpr (by kernel_rfl) H)
theorem vc_blob_saveText {K : Xs} (hk : K 23 = none) (pa0 : Option Addr) (pa1 : Option Addr) (na1 ca1 : Nat) (pa2 : Option Addr) (na2 ca2 : Nat) (h : AH) (Q : Value → AH → Prop) (H :
    ∀ h0 : AH, h0 = h.alloc (.cells ([(.pointer pa0)] : List Value) 25 false) →
    ∀ h1 : AH, h1 = h0.alloc (.cells ([(.slice pa2 na2 ca2)] : List Value) 27 false) →
    ∀ h2 : AH, h2 = h1.alloc (.cells ([(.slice none 0 0)] : List Value) 39 false) →
    ∀ h3 : AH, h3 = h2.alloc (.cells ([(.int .i64 0)] : List Value) 28 false) →
    ∀ h4 : AH, h4 = h3.alloc (.cells ([(.slice none 0 0)] : List Value) 39 false) →
    Wf Try.prog K 33 [(.slice pa1 na1 ca1), (.int .i64 128)] h4 fun r5 h6 =>
    (∃ (g7 : FuncId) (cap8 : List Value), r5 = (.func (.func g7) #[] cap8.toArray) ∧
    (∃ (J9 : Nat → AH → Prop) (D10 : AX → AH → Prop) (N11 : Nat) (item12 : Nat → List Value) (G15 B16 : AH → AH → Prop),
    (K g7 = none ∧ ([14] : List Nat) = [14]) ∧
    (∀ i, i < N11 → ∃ (p20 : Option Addr) (n21 c22 : Nat), item12 i = [(.slice p20 n21 c22)]) ∧
    (∀ h1 : AH, h1.next = h6.next + 1 → (∀ c, c ≠ h6.next → h1.get c = h6.get c) → J9 0 h1) ∧
    (∀ i h1 h2, J9 i h1 → Near h6.next h1 h2 → J9 i h2) ∧
    (∀ x h1 h2, D10 x h1 → Near h6.next h1 h2 → D10 x h2) ∧
    (∀ i h1 h2, J9 i h1 → G15 h1 h2 → J9 i h2) ∧ (∀ x h1 h2, D10 x h1 → G15 h1 h2 → D10 x h2) ∧ (∀ h1 h2, G15 h1 h2 → h2.get h6.next = h1.get h6.next) ∧
    (∀ (k13 : Nat) (h14 : AH), k13 < N11 → J9 k13 h14 → (∃ L, h14.get h6.next = some (.loop L)) → ∀ (p17 : Option Addr) (n18 : Nat) (c19 : Nat), item12 k13 = [(.slice p17 n18 c19)] →
    AX.normal = AX.normal ∧ (h14.get h6.next = h14.get h6.next) ∧ ∀ h23 : AH, Near h6.next h14 h23 → (∃ L, h23.get h6.next = some (.loop L)) →
    ∃ p24 : Option Addr, ld1 h23 h.next 0 = some (.pointer p24) ∧
    (∃ (p25 : Option Addr) (n26 c27 : Nat), ld1 h23 h0.next 0 = some (.slice p25 n26 c27) ∧
    (∃ (p28 : Option Addr) (n29 c30 : Nat), ld1 h23 h3.next 0 = some (.slice p28 n29 c30) ∧
    (derefP p25 fun b31 o32 => (((0 : Int) ≤ ((n29 : Nat) : Int)) ∧ ((((n29 : Nat) : Int) : Int) < ((n26 : Nat) : Int)) ∧
    (∃ i33 : Int, ld1 h23 b31 (o32 + Int.toNat ((n29 : Nat) : Int) * 1) = some (.int .i64 i33) ∧
    (Wf Try.prog K 34 [(.pointer p24), (.int .i64 i33), (.slice p17 n18 c19)] h23 fun r34 h35 =>
    (∃ i36 : Int, ∃ i37 : Int, ∃ i38 : Int, ∃ i39 : Int, r34 = (.tuple #[(.agg #[(.int .i64 i36), (.int .u64 i37), (.int .u32 i38)]), (.int .i64 i39)]) ∧
    (∀ h40 : AH, h40 = h35.alloc (.cells ([(.int .i64 0), (.int .u64 0), (.int .u32 0)] : List Value) 36 false) →
    (List.length ([(.int .i64 i36), (.int .u64 i37), (.int .u32 i38)] : List Value) = 3) ∧ ∃ h41 : AH, stN h40 h35.next 0 ([(.int .i64 i36), (.int .u64 i37), (.int .u32 i38)] : List Value) = some h41 ∧
    (((i39 : Int) = 0 → ∃ (p42 : Option Addr) (n43 c44 : Nat), ld1 h41 h3.next 0 = some (.slice p42 n43 c44) ∧
    (∃ i45 : Int, ∃ i46 : Int, ∃ i47 : Int, ldN h41 h35.next 0 3 = some ([(.int .i64 i45), (.int .u64 i46), (.int .u32 i47)] : List Value) ∧
    (∀ h48 : AH, h48 = h41.alloc (.cells ([(.int .i64 i45), (.int .u64 i46), (.int .u32 i47)] : List Value) 36 false) →
    ∃ (p49 : Option Addr) (n50 c51 : Nat) (h52 : AH), aBuiltin Try.prog h48 .append #[39, 39] [(.slice p42 n43 c44), (.slice (some ⟨h41.next, 0, none⟩) 1 1)] = some (.slice p49 n50 c51, h52) ∧
    (∃ h53 : AH, st1 h52 h3.next 0 (.slice p49 n50 c51) = some h53 ∧
    ((h53.get h6.next = h23.get h6.next ∧ J9 (k13 + 1) h53 ∧ ∀ h5, Near h6.next h53 h5 → B16 h14 h5)))))) ∧
    (¬ (i39 : Int) = 0 → ∃ h54 : AH, st1 h41 h1.next 0 (.slice none 0 0) = some h54 ∧
    (∃ h55 : AH, st1 h54 h2.next 0 (.int .i64 i39) = some h55 ∧
    ((h55.get h6.next = h23.get h6.next ∧ D10 .ret h55 ∧ ∀ h5, Near h6.next h55 h5 → B16 h14 h5)))))))))))))) ∧
    (∀ (JJ56 : Nat → AH → Prop) (DD57 : AH → Prop), (∀ i h1, JJ56 i h1 → J9 i h1) → (∀ i h1 h2, JJ56 i h1 → G15 h1 h2 → JJ56 i h2) → (∀ h1 h2, DD57 h1 → G15 h1 h2 → DD57 h2) →
    (∀ (k59 : Nat) (h58 : AH), k59 < N11 → JJ56 k59 h58 → Wy Try.prog K h6.next (item12 k59) h58 fun r61 h62 => ((r61 = .bool true ∧ JJ56 (k59 + 1) h62) ∨ (r61 = .bool false ∧ DD57 h62)) ∧ B16 h58 h62) →
    ∀ h60 : AH, JJ56 0 h60 → Wf Try.prog K g7 ([(Value.func (Fn.yield h6.next) #[] #[])] ++ cap8) h60 fun _ h63 => JJ56 N11 h63 ∨ DD57 h63) ∧
    (∀ h64 : AH, J9 N11 h64 → ∃ (p65 : Option Addr) (n66 c67 : Nat), ld1 (h64.del h6.next) h3.next 0 = some (.slice p65 n66 c67) ∧
    (∃ h68 : AH, st1 (h64.del h6.next) h1.next 0 (.slice p65 n66 c67) = some h68 ∧
    (∃ h69 : AH, st1 h68 h2.next 0 (.int .i64 0) = some h69 ∧
    (∃ (p70 : Option Addr) (n71 c72 : Nat), ld1 h69 h1.next 0 = some (.slice p70 n71 c72) ∧
    (∃ i73 : Int, ld1 h69 h2.next 0 = some (.int .i64 i73) ∧
    (Q (.tuple #[(.slice p70 n71 c72), (.int .i64 i73)]) h69)))))) ∧
    (∀ h74 : AH, D10 .ret h74 → ∃ (p76 : Option Addr) (n77 c78 : Nat), ld1 (h74.del h6.next) h1.next 0 = some (.slice p76 n77 c78) ∧
    (∃ i79 : Int, ld1 (h74.del h6.next) h2.next 0 = some (.int .i64 i79) ∧
    (Q (.tuple #[(.slice p76 n77 c78), (.int .i64 i79)]) (h74.del h6.next)))) ∧
    (∀ (x75 : AX) (h74 : AH), x75 ≠ .normal → D10 x75 h74 → memAX x75 [.ret] = true)))) :
    Wf Try.prog K 23 [(.pointer pa0), (.slice pa1 na1 ca1), (.slice pa2 na2 ca2)] h Q :=
  vcF_sound (hs := [(3, [(14, .slice none 0 0)])]) hk (Eq.mpr (by kernel_rfl) H)
theorem vc_blob_saveNodes {K : Xs} (hk : K 24 = none) (pa0 : Option Addr) (pa1 : Option Addr) (na1 ca1 : Nat) (pa2 : Option Addr) (na2 ca2 : Nat) (h : AH) (Q : Value → AH → Prop) (H :
    ∀ h0 : AH, h0 = h.alloc (.cells ([(.pointer pa0)] : List Value) 25 false) →
    ∀ h1 : AH, h1 = h0.alloc (.cells ([(.slice pa2 na2 ca2)] : List Value) 27 false) →
    ∀ h2 : AH, h2 = h1.alloc (.cells ([(.slice none 0 0)] : List Value) 39 false) →
    ∀ h3 : AH, h3 = h2.alloc (.cells ([(.int .i64 0)] : List Value) 28 false) →
    ∀ h4 : AH, h4 = h3.alloc (.cells ([(.slice none 0 0)] : List Value) 39 false) →
    Wf Try.prog K 35 [(.slice pa1 na1 ca1), (.int .i64 8)] h4 fun r5 h6 =>
    (∃ (g7 : FuncId) (cap8 : List Value), r5 = (.func (.func g7) #[] cap8.toArray) ∧
    (∃ (J9 : Nat → AH → Prop) (D10 : AX → AH → Prop) (N11 : Nat) (item12 : Nat → List Value) (G15 B16 : AH → AH → Prop),
    (K g7 = none ∧ ([16] : List Nat) = [16]) ∧
    (∀ i, i < N11 → ∃ (p20 : Option Addr) (n21 c22 : Nat), item12 i = [(.slice p20 n21 c22)]) ∧
    (∀ h1 : AH, h1.next = h6.next + 1 → (∀ c, c ≠ h6.next → h1.get c = h6.get c) → J9 0 h1) ∧
    (∀ i h1 h2, J9 i h1 → Near h6.next h1 h2 → J9 i h2) ∧
    (∀ x h1 h2, D10 x h1 → Near h6.next h1 h2 → D10 x h2) ∧
    (∀ i h1 h2, J9 i h1 → G15 h1 h2 → J9 i h2) ∧ (∀ x h1 h2, D10 x h1 → G15 h1 h2 → D10 x h2) ∧ (∀ h1 h2, G15 h1 h2 → h2.get h6.next = h1.get h6.next) ∧
    (∀ (k13 : Nat) (h14 : AH), k13 < N11 → J9 k13 h14 → (∃ L, h14.get h6.next = some (.loop L)) → ∀ (p17 : Option Addr) (n18 : Nat) (c19 : Nat), item12 k13 = [(.slice p17 n18 c19)] →
    AX.normal = AX.normal ∧ (h14.get h6.next = h14.get h6.next) ∧ ∀ h23 : AH, Near h6.next h14 h23 → (∃ L, h23.get h6.next = some (.loop L)) →
    ∀ h24 : AH, h24 = h23.alloc (.cells ([(.int .i64 0), (.int .u64 0), (.int .u32 0), (.int .i64 0), (.int .u64 0), (.int .u32 0), (.int .i64 0), (.int .u64 0), (.int .u32 0), (.int .i64 0), (.int .u64 0), (.int .u32 0), (.int .i64 0), (.int .u64 0), (.int .u32 0), (.int .i64 0), (.int .u64 0), (.int .u32 0), (.int .i64 0), (.int .u64 0), (.int .u32 0), (.int .i64 0), (.int .u64 0), (.int .u32 0)] : List Value) 91 false) →
    ∃ (p25 : Option Addr) (n26 c27 : Nat), aSlice Try.prog h24 91 (.pointer (some ⟨h23.next, 0, none⟩)) none none none = some (.slice p25 n26 c27) ∧
    (∃ (i28 : Int) (h29 : AH), aBuiltin Try.prog h24 .copy #[39, 39] [(.slice p25 n26 c27), (.slice p17 n18 c19)] = some (.int .i64 i28, h29) ∧
    (∃ l30 : List Value, ldN h29 h23.next 0 24 = some l30 ∧
    (Wf Try.prog K 36 [(.agg l30.toArray)] h29 fun r31 h32 =>
    (∃ l33 : List Value, ∃ i34 : Int, r31 = (.tuple #[(.agg l33.toArray), (.int .i64 i34)]) ∧
    (∀ h35 : AH, h35 = h32.alloc (.cells (List.replicate 128 (.int .u8 0) : List Value) 46 false) →
    (List.length l33 = 128) ∧ ∃ h36 : AH, stN h35 h32.next 0 l33 = some h36 ∧
    (((i34 : Int) = 0 → ∃ p37 : Option Addr, ld1 h36 h.next 0 = some (.pointer p37) ∧
    (∃ (p38 : Option Addr) (n39 c40 : Nat), ld1 h36 h0.next 0 = some (.slice p38 n39 c40) ∧
    (∃ (p41 : Option Addr) (n42 c43 : Nat), ld1 h36 h3.next 0 = some (.slice p41 n42 c43) ∧
    (derefP p38 fun b44 o45 => (((0 : Int) ≤ ((n42 : Nat) : Int)) ∧ ((((n42 : Nat) : Int) : Int) < ((n39 : Nat) : Int)) ∧
    (∃ i46 : Int, ld1 h36 b44 (o45 + Int.toNat ((n42 : Nat) : Int) * 1) = some (.int .i64 i46) ∧
    (∃ (p47 : Option Addr) (n48 c49 : Nat), aSlice Try.prog h36 46 (.pointer (some ⟨h32.next, 0, none⟩)) none none none = some (.slice p47 n48 c49) ∧
    (Wf Try.prog K 34 [(.pointer p37), (.int .i64 i46), (.slice p47 n48 c49)] h36 fun r50 h51 =>
    (∃ i52 : Int, ∃ i53 : Int, ∃ i54 : Int, ∃ i55 : Int, r50 = (.tuple #[(.agg #[(.int .i64 i52), (.int .u64 i53), (.int .u32 i54)]), (.int .i64 i55)]) ∧
    (∀ h56 : AH, h56 = h51.alloc (.cells ([(.int .i64 0), (.int .u64 0), (.int .u32 0)] : List Value) 36 false) →
    (List.length ([(.int .i64 i52), (.int .u64 i53), (.int .u32 i54)] : List Value) = 3) ∧ ∃ h57 : AH, stN h56 h51.next 0 ([(.int .i64 i52), (.int .u64 i53), (.int .u32 i54)] : List Value) = some h57 ∧
    (((i55 : Int) = 0 → ∃ (p58 : Option Addr) (n59 c60 : Nat), ld1 h57 h3.next 0 = some (.slice p58 n59 c60) ∧
    (∃ i61 : Int, ∃ i62 : Int, ∃ i63 : Int, ldN h57 h51.next 0 3 = some ([(.int .i64 i61), (.int .u64 i62), (.int .u32 i63)] : List Value) ∧
    (∀ h64 : AH, h64 = h57.alloc (.cells ([(.int .i64 i61), (.int .u64 i62), (.int .u32 i63)] : List Value) 36 false) →
    ∃ (p65 : Option Addr) (n66 c67 : Nat) (h68 : AH), aBuiltin Try.prog h64 .append #[39, 39] [(.slice p58 n59 c60), (.slice (some ⟨h57.next, 0, none⟩) 1 1)] = some (.slice p65 n66 c67, h68) ∧
    (∃ h69 : AH, st1 h68 h3.next 0 (.slice p65 n66 c67) = some h69 ∧
    ((h69.get h6.next = h23.get h6.next ∧ J9 (k13 + 1) h69 ∧ ∀ h5, Near h6.next h69 h5 → B16 h14 h5)))))) ∧
    (¬ (i55 : Int) = 0 → ∃ h70 : AH, st1 h57 h1.next 0 (.slice none 0 0) = some h70 ∧
    (∃ h71 : AH, st1 h70 h2.next 0 (.int .i64 i55) = some h71 ∧
    ((h71.get h6.next = h23.get h6.next ∧ D10 .ret h71 ∧ ∀ h5, Near h6.next h71 h5 → B16 h14 h5))))))))))))))) ∧
    (¬ (i34 : Int) = 0 → ∃ h72 : AH, st1 h36 h1.next 0 (.slice none 0 0) = some h72 ∧
    (∃ h73 : AH, st1 h72 h2.next 0 (.int .i64 i34) = some h73 ∧
    ((h73.get h6.next = h23.get h6.next ∧ D10 .ret h73 ∧ ∀ h5, Near h6.next h73 h5 → B16 h14 h5))))))))))) ∧
    (∀ (JJ74 : Nat → AH → Prop) (DD75 : AH → Prop), (∀ i h1, JJ74 i h1 → J9 i h1) → (∀ i h1 h2, JJ74 i h1 → G15 h1 h2 → JJ74 i h2) → (∀ h1 h2, DD75 h1 → G15 h1 h2 → DD75 h2) →
    (∀ (k77 : Nat) (h76 : AH), k77 < N11 → JJ74 k77 h76 → Wy Try.prog K h6.next (item12 k77) h76 fun r79 h80 => ((r79 = .bool true ∧ JJ74 (k77 + 1) h80) ∨ (r79 = .bool false ∧ DD75 h80)) ∧ B16 h76 h80) →
    ∀ h78 : AH, JJ74 0 h78 → Wf Try.prog K g7 ([(Value.func (Fn.yield h6.next) #[] #[])] ++ cap8) h78 fun _ h81 => JJ74 N11 h81 ∨ DD75 h81) ∧
    (∀ h82 : AH, J9 N11 h82 → ∃ (p83 : Option Addr) (n84 c85 : Nat), ld1 (h82.del h6.next) h3.next 0 = some (.slice p83 n84 c85) ∧
    (∃ h86 : AH, st1 (h82.del h6.next) h1.next 0 (.slice p83 n84 c85) = some h86 ∧
    (∃ h87 : AH, st1 h86 h2.next 0 (.int .i64 0) = some h87 ∧
    (∃ (p88 : Option Addr) (n89 c90 : Nat), ld1 h87 h1.next 0 = some (.slice p88 n89 c90) ∧
    (∃ i91 : Int, ld1 h87 h2.next 0 = some (.int .i64 i91) ∧
    (Q (.tuple #[(.slice p88 n89 c90), (.int .i64 i91)]) h87)))))) ∧
    (∀ h92 : AH, D10 .ret h92 → ∃ (p94 : Option Addr) (n95 c96 : Nat), ld1 (h92.del h6.next) h1.next 0 = some (.slice p94 n95 c96) ∧
    (∃ i97 : Int, ld1 (h92.del h6.next) h2.next 0 = some (.int .i64 i97) ∧
    (Q (.tuple #[(.slice p94 n95 c96), (.int .i64 i97)]) (h92.del h6.next)))) ∧
    (∀ (x93 : AX) (h92 : AH), x93 ≠ .normal → D10 x93 h92 → memAX x93 [.ret] = true)))) :
    Wf Try.prog K 24 [(.pointer pa0), (.slice pa1 na1 ca1), (.slice pa2 na2 ca2)] h Q :=
  vcF_sound (hs := [(3, [(16, .slice none 0 0)])]) hk (Eq.mpr (by kernel_rfl) H)
theorem vc_blob_Load {K : Xs} (hk : K 12 = none) (pa0 : Option Addr) (ia1_0 : Int) (ia1_1 : Int) (ia1_2 : Int) (ia2 : Int) (h : AH) (Q : Value → AH → Prop) (H :
    ∀ h0 : AH, h0 = h.alloc (.cells ([(.int .i64 ia1_0), (.int .u64 ia1_1), (.int .u32 ia1_2)] : List Value) 36 false) →
    Wf Try.prog K 17 [(.int .i64 ia2)] h0 fun r1 h2 =>
    (∃ (p3 : Option Addr) (n4 c5 : Nat), r1 = (.slice p3 n4 c5) ∧
    (((((n4 : Nat) : Int) : Int) = 0 → Q (.tuple #[(.slice none 0 0), (.slice none 0 0), (.int .i64 121)]) h2) ∧
    (¬ (((n4 : Nat) : Int) : Int) = 0 → ∃ i6 : Int, ∃ i7 : Int, ∃ i8 : Int, ldN h2 h.next 0 3 = some ([(.int .i64 i6), (.int .u64 i7), (.int .u32 i8)] : List Value) ∧
    (∃ la9 lb10, keyA Try.prog 36 (.agg #[(.int .i64 i6), (.int .u64 i7), (.int .u32 i8)]) = some la9 ∧ keyA Try.prog 36 (.agg #[(.int .i64 0), (.int .u64 0), (.int .u32 0)]) = some lb10 ∧
    (litsEq la9 lb10 = true → Q (.tuple #[(.slice none 0 0), (.slice none 0 0), (.int .i64 121)]) h2) ∧
    (litsEq la9 lb10 = false → ∃ i11 : Int, ∃ i12 : Int, ∃ i13 : Int, ldN h2 h.next 0 3 = some ([(.int .i64 i11), (.int .u64 i12), (.int .u32 i13)] : List Value) ∧
    (∀ h14 : AH, h14 = h2.alloc (.cells ([(.int .i64 i11), (.int .u64 i12), (.int .u32 i13)] : List Value) 36 false) →
    ∃ i15 : Int, ∃ i16 : Int, ∃ i17 : Int, ldN h14 h.next 0 3 = some ([(.int .i64 i15), (.int .u64 i16), (.int .u32 i17)] : List Value) ∧
    (∀ h18 : AH, h18 = h14.alloc (.cells ([(.int .i64 i15), (.int .u64 i16), (.int .u32 i17)] : List Value) 36 false) →
    ∀ i19 : Int, i19 = IntKind.wrap .i64 (((n4 : Nat) : Int) - 2) → ∃ I20 : Option Addr → Nat → Nat → Option Addr → Nat → Nat → Int → Nat → AH → Prop, (∃ n, I20 (some ⟨h2.next, 0, none⟩) 1 1 (some ⟨h14.next, 0, none⟩) 1 1 i19 n h18) ∧
    ∀ (k21 : Nat) (h22 : AH) (p24 : Option Addr) (n25 : Nat) (c26 : Nat) (p27 : Option Addr) (n28 : Nat) (c29 : Nat) (i30 : Int), I20 p24 n25 c26 p27 n28 c29 i30 k21 h22 →
    ((0 : Int) ≤ i30 → derefP p3 fun b31 o32 => (((0 : Int) ≤ i30) ∧ ((i30 : Int) < ((n4 : Nat) : Int)) ∧
    (∃ i33 : Int, ld1 h22 b31 (o32 + Int.toNat i30 * 1) = some (.int .i64 i33) ∧
    (Wf Try.prog K 25 [(.pointer pa0), (.slice p24 n25 c26), (.int .i64 i33)] h22 fun r34 h35 =>
    (∃ (p36 : Option Addr) (n37 c38 : Nat), ∃ i39 : Int, r34 = (.tuple #[(.slice p36 n37 c38), (.int .i64 i39)]) ∧
    (((i39 : Int) = 0 → ∃ (p40 : Option Addr) (n41 c42 : Nat) (h43 : AH), aBuiltin Try.prog h35 .append #[39, 39] [(.slice p27 n28 c29), (.slice p36 n37 c38)] = some (.slice p40 n41 c42, h43) ∧
    (∀ i44 : Int, i44 = IntKind.wrap .i64 (i30 - 1) → ∃ j23, j23 < k21 ∧ I20 p36 n37 c38 p40 n41 c42 i44 j23 h43)) ∧
    (¬ (i39 : Int) = 0 → Q (.tuple #[(.slice none 0 0), (.slice none 0 0), (.int .i64 i39)]) h35))))))) ∧
    (¬ (0 : Int) ≤ i30 → Wf Try.prog K 26 [(.pointer pa0), (.slice p24 n25 c26), (.int .i64 ia2)] h22 fun r45 h46 =>
    (∃ (p47 : Option Addr) (n48 c49 : Nat), ∃ i50 : Int, r45 = (.tuple #[(.slice p47 n48 c49), (.int .i64 i50)]) ∧
    (((i50 : Int) = 0 → Q (.tuple #[(.slice p47 n48 c49), (.slice p27 n28 c29), (.int .i64 0)]) h46) ∧
    (¬ (i50 : Int) = 0 → Q (.tuple #[(.slice none 0 0), (.slice none 0 0), (.int .i64 i50)]) h46)))))))))))) :
    Wf Try.prog K 12 [(.pointer pa0), (.agg #[(.int .i64 ia1_0), (.int .u64 ia1_1), (.int .u32 ia1_2)]), (.int .i64 ia2)] h Q :=
  vcF_sound (hs := [(7, [(10, .slice none 0 0), (11, .slice none 0 0), (12, .int .i64 0)])]) hk (Eq.mpr (by kernel_rfl) H)
theorem vc_blob_loadNodes {K : Xs} (hk : K 25 = none) (pa0 : Option Addr) (pa1 : Option Addr) (na1 ca1 : Nat) (ia2 : Int) (h : AH) (Q : Value → AH → Prop) (H :
    ((0 : Int) ≤ 0 ∧ (0 : Int) ≤ ia2 ∧ (ia2 : Int) ≤ 9223372036854775807 ∧ (24 : Int) * ia2 ≤ 281474976710656) ∧ ∀ h0 : AH, h0 = h.alloc (.cells ((List.replicate (Int.toNat ia2) ([(.int .i64 0), (.int .u64 0), (.int .u32 0)] : List Value)).flatten) 36 false) →
    ∃ I1 : Option Addr → Nat → Nat → Int → Nat → AH → Prop, (∃ n, I1 (some ⟨h.next, 0, none⟩) (Int.toNat 0) (Int.toNat ia2) 0 n h0) ∧
    ∀ (k2 : Nat) (h3 : AH) (p5 : Option Addr) (n6 : Nat) (c7 : Nat) (i8 : Int), I1 p5 n6 c7 i8 k2 h3 →
    ((i8 : Int) < ((na1 : Nat) : Int) → derefP pa1 fun b9 o10 => (((0 : Int) ≤ i8) ∧ ((i8 : Int) < ((na1 : Nat) : Int)) ∧
    (∃ i11 : Int, ∃ i12 : Int, ∃ i13 : Int, ldN h3 b9 (o10 + Int.toNat i8 * 3) 3 = some ([(.int .i64 i11), (.int .u64 i12), (.int .u32 i13)] : List Value) ∧
    (∀ h14 : AH, h14 = h3.alloc (.cells ([(.int .i64 0), (.int .u64 0), (.int .u32 0)] : List Value) 36 false) →
    (List.length ([(.int .i64 i11), (.int .u64 i12), (.int .u32 i13)] : List Value) = 3) ∧ ∃ h15 : AH, stN h14 h3.next 0 ([(.int .i64 i11), (.int .u64 i12), (.int .u32 i13)] : List Value) = some h15 ∧
    (∃ i16 : Int, ∃ i17 : Int, ∃ i18 : Int, ldN h15 h3.next 0 3 = some ([(.int .i64 i16), (.int .u64 i17), (.int .u32 i18)] : List Value) ∧
    (Wf Try.prog K 16 [(.pointer pa0), (.agg #[(.int .i64 i16), (.int .u64 i17), (.int .u32 i18)])] h15 fun r19 h20 =>
    (∃ l21 : List Value, ∃ i22 : Int, r19 = (.tuple #[(.agg l21.toArray), (.int .i64 i22)]) ∧
    (∀ h23 : AH, h23 = h20.alloc (.cells (List.replicate 128 (.int .u8 0) : List Value) 46 false) →
    (List.length l21 = 128) ∧ ∃ h24 : AH, stN h23 h20.next 0 l21 = some h24 ∧
    (((i22 : Int) = 0 → ∃ l25 : List Value, ldN h24 h20.next 0 128 = some l25 ∧
    (Wf Try.prog K 37 [(.agg l25.toArray)] h24 fun r26 h27 =>
    (∃ l28 : List Value, ∃ i29 : Int, r26 = (.tuple #[(.agg l28.toArray), (.int .i64 i29)]) ∧
    (∀ h30 : AH, h30 = h27.alloc (.cells ([(.int .i64 0), (.int .u64 0), (.int .u32 0), (.int .i64 0), (.int .u64 0), (.int .u32 0), (.int .i64 0), (.int .u64 0), (.int .u32 0), (.int .i64 0), (.int .u64 0), (.int .u32 0), (.int .i64 0), (.int .u64 0), (.int .u32 0), (.int .i64 0), (.int .u64 0), (.int .u32 0), (.int .i64 0), (.int .u64 0), (.int .u32 0), (.int .i64 0), (.int .u64 0), (.int .u32 0)] : List Value) 91 false) →
    (List.length l28 = 24) ∧ ∃ h31 : AH, stN h30 h27.next 0 l28 = some h31 ∧
    (((i29 : Int) = 0 → ∀ i32 : Int, i32 = IntKind.wrap .i64 (ia2 - ((n6 : Nat) : Int)) → ∀ i33 : Int, i33 = (if i32 < (8 : Int) then i32 else (8 : Int)) → ∃ l34 : List Value, ldN h31 h27.next 0 24 = some l34 ∧
    (∃ I35 : Int → Nat → AH → Prop, (∃ n, I35 0 n h31) ∧
    ∀ (k36 : Nat) (h37 : AH) (i39 : Int), I35 i39 k36 h37 →
    ((i39 : Int) < 8 → ((0 : Int) ≤ i39) ∧ ((i39 : Int) < 8) ∧ (∃ i40 : Int, ∃ i41 : Int, ∃ i42 : Int, (List.take 3 (List.drop (Int.toNat i39 * 3) l34)) = ([(.int .i64 i40), (.int .u64 i41), (.int .u32 i42)] : List Value) ∧
    (∀ h43 : AH, h43 = h37.alloc (.cells ([(.int .i64 0), (.int .u64 0), (.int .u32 0)] : List Value) 36 false) →
    (List.length ([(.int .i64 i40), (.int .u64 i41), (.int .u32 i42)] : List Value) = 3) ∧ ∃ h44 : AH, stN h43 h37.next 0 ([(.int .i64 i40), (.int .u64 i41), (.int .u32 i42)] : List Value) = some h44 ∧
    (∃ i45 : Int, ∃ i46 : Int, ∃ i47 : Int, ldN h44 h37.next 0 3 = some ([(.int .i64 i45), (.int .u64 i46), (.int .u32 i47)] : List Value) ∧
    (∃ la48 lb49, keyA Try.prog 36 (.agg #[(.int .i64 i45), (.int .u64 i46), (.int .u32 i47)]) = some la48 ∧ keyA Try.prog 36 (.agg #[(.int .i64 0), (.int .u64 0), (.int .u32 0)]) = some lb49 ∧
    (litsEq la48 lb49 = true → ((i39 : Int) < i33 → Q (.tuple #[(.slice none 0 0), (.int .i64 91)]) h44) ∧
    (¬ (i39 : Int) < i33 → ∀ i50 : Int, i50 = IntKind.wrap .i64 (i39 + 1) → ∃ j38, j38 < k36 ∧ I35 i50 j38 h44)) ∧
    (litsEq la48 lb49 = false → ((i39 : Int) < i33 → ∀ i51 : Int, i51 = IntKind.wrap .i64 (i39 + 1) → ∃ j38, j38 < k36 ∧ I35 i51 j38 h44) ∧
    (¬ (i39 : Int) < i33 → Q (.tuple #[(.slice none 0 0), (.int .i64 91)]) h44))))))) ∧
    (¬ (i39 : Int) < 8 → ∃ (p52 : Option Addr) (n53 c54 : Nat), aSlice Try.prog h37 91 (.pointer (some ⟨h27.next, 0, none⟩)) none (some (.int .i64 i33)) none = some (.slice p52 n53 c54) ∧
    (∃ (p55 : Option Addr) (n56 c57 : Nat) (h58 : AH), aBuiltin Try.prog h37 .append #[39, 39] [(.slice p5 n6 c7), (.slice p52 n53 c54)] = some (.slice p55 n56 c57, h58) ∧
    (∀ i59 : Int, i59 = IntKind.wrap .i64 (i8 + 1) → ∃ j4, j4 < k2 ∧ I1 p55 n56 c57 i59 j4 h58))))) ∧
    (¬ (i29 : Int) = 0 → Q (.tuple #[(.slice none 0 0), (.int .i64 91)]) h31)))))) ∧
    (¬ (i22 : Int) = 0 → Q (.tuple #[(.slice none 0 0), (.int .i64 i22)]) h24)))))))))) ∧
    (¬ (i8 : Int) < ((na1 : Nat) : Int) → Q (.tuple #[(.slice p5 n6 c7), (.int .i64 0)]) h3)) :
    Wf Try.prog K 25 [(.pointer pa0), (.slice pa1 na1 ca1), (.int .i64 ia2)] h Q :=
  vcF_sound (hs := [(3, [(8, .slice none 0 0), (21, .int .i64 0)]), (13, [(47, .int .i64 0)])]) hk (Eq.mpr (by kernel_rfl) H)
theorem vc_blob_loadText {K : Xs} (hk : K 26 = none) (pa0 : Option Addr) (pa1 : Option Addr) (na1 ca1 : Nat) (ia2 : Int) (h : AH) (Q : Value → AH → Prop) (H :
    ∀ i0 : Int, i0 = IntKind.wrap .i64 (((na1 : Nat) : Int) * 128) → ((0 : Int) ≤ 0 ∧ (0 : Int) ≤ i0 ∧ (i0 : Int) ≤ 9223372036854775807 ∧ (1 : Int) * i0 ≤ 281474976710656) ∧ ∀ h1 : AH, h1 = h.alloc (.cells ((List.replicate (Int.toNat i0) ([(.int .u8 0)] : List Value)).flatten) 5 false) →
    ∃ I2 : Option Addr → Nat → Nat → Int → Nat → AH → Prop, (∃ n, I2 (some ⟨h.next, 0, none⟩) (Int.toNat 0) (Int.toNat i0) 0 n h1) ∧
    ∀ (k3 : Nat) (h4 : AH) (p6 : Option Addr) (n7 : Nat) (c8 : Nat) (i9 : Int), I2 p6 n7 c8 i9 k3 h4 →
    ((i9 : Int) < ((na1 : Nat) : Int) → derefP pa1 fun b10 o11 => (((0 : Int) ≤ i9) ∧ ((i9 : Int) < ((na1 : Nat) : Int)) ∧
    (∃ i12 : Int, ∃ i13 : Int, ∃ i14 : Int, ldN h4 b10 (o11 + Int.toNat i9 * 3) 3 = some ([(.int .i64 i12), (.int .u64 i13), (.int .u32 i14)] : List Value) ∧
    (∀ h15 : AH, h15 = h4.alloc (.cells ([(.int .i64 0), (.int .u64 0), (.int .u32 0)] : List Value) 36 false) →
    (List.length ([(.int .i64 i12), (.int .u64 i13), (.int .u32 i14)] : List Value) = 3) ∧ ∃ h16 : AH, stN h15 h4.next 0 ([(.int .i64 i12), (.int .u64 i13), (.int .u32 i14)] : List Value) = some h16 ∧
    (∃ i17 : Int, ∃ i18 : Int, ∃ i19 : Int, ldN h16 h4.next 0 3 = some ([(.int .i64 i17), (.int .u64 i18), (.int .u32 i19)] : List Value) ∧
    (Wf Try.prog K 16 [(.pointer pa0), (.agg #[(.int .i64 i17), (.int .u64 i18), (.int .u32 i19)])] h16 fun r20 h21 =>
    (∃ l22 : List Value, ∃ i23 : Int, r20 = (.tuple #[(.agg l22.toArray), (.int .i64 i23)]) ∧
    (∀ h24 : AH, h24 = h21.alloc (.cells (List.replicate 128 (.int .u8 0) : List Value) 46 false) →
    (List.length l22 = 128) ∧ ∃ h25 : AH, stN h24 h21.next 0 l22 = some h25 ∧
    (((i23 : Int) = 0 → ∃ (p26 : Option Addr) (n27 c28 : Nat), aSlice Try.prog h25 46 (.pointer (some ⟨h21.next, 0, none⟩)) none none none = some (.slice p26 n27 c28) ∧
    (∃ (p29 : Option Addr) (n30 c31 : Nat) (h32 : AH), aBuiltin Try.prog h25 .append #[22, 22] [(.slice p6 n7 c8), (.slice p26 n27 c28)] = some (.slice p29 n30 c31, h32) ∧
    (∀ i33 : Int, i33 = IntKind.wrap .i64 (i9 + 1) → ∃ j5, j5 < k3 ∧ I2 p29 n30 c31 i33 j5 h32))) ∧
    (¬ (i23 : Int) = 0 → Q (.tuple #[(.slice none 0 0), (.int .i64 i23)]) h25)))))))))) ∧
    (¬ (i9 : Int) < ((na1 : Nat) : Int) → ∃ (p34 : Option Addr) (n35 c36 : Nat), aSlice Try.prog h4 22 (.slice p6 n7 c8) (some (.int .i64 ia2)) none none = some (.slice p34 n35 c36) ∧
    (∃ I37 : Int → Nat → AH → Prop, (∃ n, I37 0 n h4) ∧
    ∀ (k38 : Nat) (h39 : AH) (i41 : Int), I37 i41 k38 h39 →
    ((i41 : Int) < ((n35 : Nat) : Int) → derefP p34 fun b42 o43 => (((0 : Int) ≤ i41) ∧ ((i41 : Int) < ((n35 : Nat) : Int)) ∧
    (∃ i44 : Int, ld1 h39 b42 (o43 + Int.toNat i41 * 1) = some (.int .u8 i44) ∧
    (((i44 : Int) = 0 → ∀ i45 : Int, i45 = IntKind.wrap .i64 (i41 + 1) → ∃ j40, j40 < k38 ∧ I37 i45 j40 h39) ∧
    (¬ (i44 : Int) = 0 → Q (.tuple #[(.slice none 0 0), (.int .i64 91)]) h39))))) ∧
    (¬ (i41 : Int) < ((n35 : Nat) : Int) → ∃ (p46 : Option Addr) (n47 c48 : Nat), aSlice Try.prog h39 22 (.slice p6 n7 c8) none (some (.int .i64 ia2)) (some (.int .i64 ia2)) = some (.slice p46 n47 c48) ∧
    (Q (.tuple #[(.slice p46 n47 c48), (.int .i64 0)]) h39))))) :
    Wf Try.prog K 26 [(.pointer pa0), (.slice pa1 na1 ca1), (.int .i64 ia2)] h Q :=
  vcF_sound (hs := [(3, [(8, .slice none 0 0), (21, .int .i64 0)]), (11, [(42, .int .i64 0)])]) hk (Eq.mpr (by kernel_rfl) H)
theorem vc_slices_Chunk___byte_byte_ {K : Xs} (hk : K 33 = none) (pa0 : Option Addr) (na0 ca0 : Nat) (ia1 : Int) (h : AH) (Q : Value → AH → Prop) (H :
    ∀ h0 : AH, h0 = h.alloc (.cells ([(.slice pa0 na0 ca0)] : List Value) 22 false) →
    ∀ h1 : AH, h1 = h0.alloc (.cells ([(.int .i64 ia1)] : List Value) 3 false) →
    ∃ i2 : Int, ld1 h1 h0.next 0 = some (.int .i64 i2) ∧
    (((i2 : Int) < 1 → False) ∧
    (¬ (i2 : Int) < 1 → Q (.func (.func 39) #[] #[(.pointer (some ⟨h.next, 0, none⟩)), (.pointer (some ⟨h0.next, 0, none⟩))]) h1))) :
    Wf Try.prog K 33 [(.slice pa0 na0 ca0), (.int .i64 ia1)] h Q :=
  vcF_sound (hs := []) hk (Eq.mpr (by kernel_rfl) H)
theorem vc_slices_Chunk___byte_byte__1 {K : Xs} (hk : K 39 = none) (ya0 : Nat) (pf0 : Option Addr) (pf1 : Option Addr) (h : AH) (Q : Value → AH → Prop) (H :
    ∃ I0 : Int → Nat → AH → Prop, (∃ n, I0 0 n h) ∧
    ∀ (k1 : Nat) (h2 : AH) (i4 : Int), I0 i4 k1 h2 →
    derefP pf0 fun b5 o6 => (∃ (p7 : Option Addr) (n8 c9 : Nat), ld1 h2 b5 o6 = some (.slice p7 n8 c9) ∧
    (((i4 : Int) < ((n8 : Nat) : Int) → derefP pf1 fun b10 o11 => (∃ i12 : Int, ld1 h2 b10 o11 = some (.int .i64 i12) ∧
    (derefP pf0 fun b13 o14 => (∃ (p15 : Option Addr) (n16 c17 : Nat), ld1 h2 b13 o14 = some (.slice p15 n16 c17) ∧
    (∃ (p18 : Option Addr) (n19 c20 : Nat), aSlice Try.prog h2 22 (.slice p15 n16 c17) (some (.int .i64 i4)) none none = some (.slice p18 n19 c20) ∧
    (∀ i21 : Int, i21 = (if ((n19 : Nat) : Int) < (i12 : Int) then ((n19 : Nat) : Int) else (i12 : Int)) → derefP pf0 fun b22 o23 => (∃ (p24 : Option Addr) (n25 c26 : Nat), ld1 h2 b22 o23 = some (.slice p24 n25 c26) ∧
    (∀ i27 : Int, i27 = IntKind.wrap .i64 (i4 + i21) → ∀ i28 : Int, i28 = IntKind.wrap .i64 (i4 + i21) → ∃ (p29 : Option Addr) (n30 c31 : Nat), aSlice Try.prog h2 22 (.slice p24 n25 c26) (some (.int .i64 i4)) (some (.int .i64 i27)) (some (.int .i64 i28)) = some (.slice p29 n30 c31) ∧
    (Wy Try.prog K ya0 [(.slice p29 n30 c31)] h2 fun r32 h33 => ∃ b34 : Bool, r32 = .bool b34 ∧
    (cond (!b34) (Q (.tuple #[]) h33)
    (derefP pf1 fun b35 o36 => (∃ i37 : Int, ld1 h33 b35 o36 = some (.int .i64 i37) ∧
    (∀ i38 : Int, i38 = IntKind.wrap .i64 (i4 + i37) → ∃ j3, j3 < k1 ∧ I0 i38 j3 h33))))))))))))) ∧
    (¬ (i4 : Int) < ((n8 : Nat) : Int) → Q (.tuple #[]) h2)))) :
    Wf Try.prog K 39 [(Value.func (Fn.yield ya0) #[] #[]), (.pointer pf0), (.pointer pf1)] h Q :=
  vcF_sound (hs := [(1, [(4, .int .i64 0)])]) hk (Eq.mpr (by kernel_rfl) H)
theorem vc_api_Ptr_ {K : Xs} (hk : K 35 = none) (pa0 : Option Addr) (na0 ca0 : Nat) (ia1 : Int) (h : AH) (Q : Value → AH → Prop) (H :
    ∀ h0 : AH, h0 = h.alloc (.cells ([(.slice pa0 na0 ca0)] : List Value) 39 false) →
    ∀ h1 : AH, h1 = h0.alloc (.cells ([(.int .i64 ia1)] : List Value) 3 false) →
    ∃ i2 : Int, ld1 h1 h0.next 0 = some (.int .i64 i2) ∧
    (((i2 : Int) < 1 → False) ∧
    (¬ (i2 : Int) < 1 → Q (.func (.func 43) #[] #[(.pointer (some ⟨h.next, 0, none⟩)), (.pointer (some ⟨h0.next, 0, none⟩))]) h1))) :
    Wf Try.prog K 35 [(.slice pa0 na0 ca0), (.int .i64 ia1)] h Q :=
  vcF_sound (hs := []) hk (Eq.mpr (by kernel_rfl) H)
theorem vc_api_Ptr__1 {K : Xs} (hk : K 43 = none) (ya0 : Nat) (pf0 : Option Addr) (pf1 : Option Addr) (h : AH) (Q : Value → AH → Prop) (H :
    ∃ I0 : Int → Nat → AH → Prop, (∃ n, I0 0 n h) ∧
    ∀ (k1 : Nat) (h2 : AH) (i4 : Int), I0 i4 k1 h2 →
    derefP pf0 fun b5 o6 => (∃ (p7 : Option Addr) (n8 c9 : Nat), ld1 h2 b5 o6 = some (.slice p7 n8 c9) ∧
    (((i4 : Int) < ((n8 : Nat) : Int) → derefP pf1 fun b10 o11 => (∃ i12 : Int, ld1 h2 b10 o11 = some (.int .i64 i12) ∧
    (derefP pf0 fun b13 o14 => (∃ (p15 : Option Addr) (n16 c17 : Nat), ld1 h2 b13 o14 = some (.slice p15 n16 c17) ∧
    (∃ (p18 : Option Addr) (n19 c20 : Nat), aSlice Try.prog h2 39 (.slice p15 n16 c17) (some (.int .i64 i4)) none none = some (.slice p18 n19 c20) ∧
    (∀ i21 : Int, i21 = (if ((n19 : Nat) : Int) < (i12 : Int) then ((n19 : Nat) : Int) else (i12 : Int)) → derefP pf0 fun b22 o23 => (∃ (p24 : Option Addr) (n25 c26 : Nat), ld1 h2 b22 o23 = some (.slice p24 n25 c26) ∧
    (∀ i27 : Int, i27 = IntKind.wrap .i64 (i4 + i21) → ∀ i28 : Int, i28 = IntKind.wrap .i64 (i4 + i21) → ∃ (p29 : Option Addr) (n30 c31 : Nat), aSlice Try.prog h2 39 (.slice p24 n25 c26) (some (.int .i64 i4)) (some (.int .i64 i27)) (some (.int .i64 i28)) = some (.slice p29 n30 c31) ∧
    (Wy Try.prog K ya0 [(.slice p29 n30 c31)] h2 fun r32 h33 => ∃ b34 : Bool, r32 = .bool b34 ∧
    (cond (!b34) (Q (.tuple #[]) h33)
    (derefP pf1 fun b35 o36 => (∃ i37 : Int, ld1 h33 b35 o36 = some (.int .i64 i37) ∧
    (∀ i38 : Int, i38 = IntKind.wrap .i64 (i4 + i37) → ∃ j3, j3 < k1 ∧ I0 i38 j3 h33))))))))))))) ∧
    (¬ (i4 : Int) < ((n8 : Nat) : Int) → Q (.tuple #[]) h2)))) :
    Wf Try.prog K 43 [(Value.func (Fn.yield ya0) #[] #[]), (.pointer pf0), (.pointer pf1)] h Q :=
  vcF_sound (hs := [(1, [(4, .int .i64 0)])]) hk (Eq.mpr (by kernel_rfl) H)
theorem vc_slab_Map_Many {K : Xs} (hk : K 10 = none) (pa0 : Option Addr) (ia1 : Int) (h : AH) (Q : Value → AH → Prop) (H :
    Wf Try.prog K 21 [(.pointer pa0)] h fun r0 h1 =>
    (∃ i2 : Int, r0 = (.int .i64 i2) ∧
    (((i2 : Int) < ia1 → Q (.tuple #[(.slice none 0 0), (.int .i64 71)]) h1) ∧
    (¬ (i2 : Int) < ia1 → ∃ I3 : Option Addr → Nat → Nat → Nat → AH → Prop, (∃ n, I3 none 0 0 n h1) ∧
    ∀ (k4 : Nat) (h5 : AH) (p7 : Option Addr) (n8 : Nat) (c9 : Nat), I3 p7 n8 c9 k4 h5 →
    ((((n8 : Nat) : Int) : Int) < ia1 → Wf Try.prog K 22 [(.pointer pa0)] h5 fun r10 h11 =>
    (∃ i12 : Int, ∃ i13 : Int, r10 = (.tuple #[(.int .i64 i12), (.int .i64 i13)]) ∧
    (((i13 : Int) = 0 → ∀ h14 : AH, h14 = h11.alloc (.cells ([(.int .i64 i12)] : List Value) 3 false) →
    ∃ (p15 : Option Addr) (n16 c17 : Nat) (h18 : AH), aBuiltin Try.prog h14 .append #[27, 27] [(.slice p7 n8 c9), (.slice (some ⟨h11.next, 0, none⟩) 1 1)] = some (.slice p15 n16 c17, h18) ∧
    (∃ j6, j6 < k4 ∧ I3 p15 n16 c17 j6 h18)) ∧
    (¬ (i13 : Int) = 0 → Q (.tuple #[(.slice none 0 0), (.int .i64 i13)]) h11)))) ∧
    (¬ (((n8 : Nat) : Int) : Int) < ia1 → Q (.tuple #[(.slice p7 n8 c9), (.int .i64 0)]) h5))))) :
    Wf Try.prog K 10 [(.pointer pa0), (.int .i64 ia1)] h Q :=
  vcF_sound (hs := [(4, [(6, .slice none 0 0)])]) hk (Eq.mpr (by kernel_rfl) H)
theorem vc_aquiferlaw12_BlobBack {K : Xs} (hk : K 3 = none) (pa0 : Option Addr) (na0 ca0 : Nat) (h : AH) (Q : Value → AH → Prop) (H :
    Wf Try.prog K 6 [] h fun r0 h1 =>
    (((r0 = (.bool true) ∧
    (Wf Try.prog K 7 [(.int .i64 ((na0 : Nat) : Int))] h1 fun r2 h3 =>
    (∃ i4 : Int, r2 = (.int .i64 i4) ∧
    (((i4 : Int) = 0 → ((((na0 : Nat) : Int) : Int) = 0 → ((900 : Int) < i4 → Q (.bool false) h3) ∧
    (¬ (900 : Int) < i4 → ((i4 : Int) = 0 → Q (.bool true) h3) ∧
    (¬ (i4 : Int) = 0 → Wf Try.prog K 8 [(.int .i64 1024)] h3 fun r5 h6 =>
    (∃ p7 : Option Addr, r5 = (.pointer p7) ∧
    (Wf Try.prog K 9 [(.pointer p7)] h6 fun r8 h9 =>
    (∃ p10 : Option Addr, r8 = (.pointer p10) ∧
    (Wf Try.prog K 10 [(.pointer p10), (.int .i64 i4)] h9 fun r11 h12 =>
    (∃ (p13 : Option Addr) (n14 c15 : Nat), ∃ i16 : Int, r11 = (.tuple #[(.slice p13 n14 c15), (.int .i64 i16)]) ∧
    (∀ h17 : AH, h17 = h12.alloc (.cells ([] : List Value) 5 false) →
    ∃ (p18 : Option Addr) (n19 c20 : Nat) (h21 : AH), aBuiltin Try.prog h17 .append #[22, 22] [(.slice (some ⟨h12.next, 0, none⟩) 0 0), (.slice pa0 na0 ca0)] = some (.slice p18 n19 c20, h21) ∧
    (Wf Try.prog K 11 [(.pointer p7), (.slice p18 n19 c20), (.slice p13 n14 c15)] h21 fun r22 h23 =>
    (∃ i24 : Int, ∃ i25 : Int, ∃ i26 : Int, ∃ i27 : Int, r22 = (.tuple #[(.agg #[(.int .i64 i24), (.int .u64 i25), (.int .u32 i26)]), (.int .i64 i27)]) ∧
    (∀ h28 : AH, h28 = h23.alloc (.cells ([(.int .i64 0), (.int .u64 0), (.int .u32 0)] : List Value) 36 false) →
    (List.length ([(.int .i64 i24), (.int .u64 i25), (.int .u32 i26)] : List Value) = 3) ∧ ∃ h29 : AH, stN h28 h23.next 0 ([(.int .i64 i24), (.int .u64 i25), (.int .u32 i26)] : List Value) = some h29 ∧
    (∃ i30 : Int, ∃ i31 : Int, ∃ i32 : Int, ldN h29 h23.next 0 3 = some ([(.int .i64 i30), (.int .u64 i31), (.int .u32 i32)] : List Value) ∧
    (Wf Try.prog K 12 [(.pointer p7), (.agg #[(.int .i64 i30), (.int .u64 i31), (.int .u32 i32)]), (.int .i64 ((na0 : Nat) : Int))] h29 fun r33 h34 =>
    (∃ (p35 : Option Addr) (n36 c37 : Nat), ∃ (p38 : Option Addr) (n39 c40 : Nat), ∃ i41 : Int, r33 = (.tuple #[(.slice p35 n36 c37), (.slice p38 n39 c40), (.int .i64 i41)]) ∧
    (((i27 : Int) = 0 → ((i41 : Int) = 0 → ∃ s42 : ByteArray, aConvert Try.prog h34 22 9 (.slice p35 n36 c37) = some (.string s42, h34) ∧
    (∃ s43 : ByteArray, aConvert Try.prog h34 22 9 (.slice pa0 na0 ca0) = some (.string s43, h34) ∧
    ((s42 = s43 → ((((n39 : Nat) : Int) : Int) = i4 → ∃ i44 : Int, ld1 h34 h23.next 0 = some (.int .i64 i44) ∧
    (∀ i45 : Int, i45 = IntKind.wrap .i64 (i4 - 1) → derefP p13 fun b46 o47 => (((0 : Int) ≤ i45) ∧ ((i45 : Int) < ((n14 : Nat) : Int)) ∧
    (∃ i48 : Int, ld1 h34 b46 (o47 + Int.toNat i45 * 1) = some (.int .i64 i48) ∧
    (((i44 : Int) = i48 → ∃ l49 : List Value, aBuild Try.prog 42 #[] = some (.agg l49.toArray) ∧
    (∀ h50 : AH, h50 = h34.alloc (.cells (List.replicate 1024 (.bool false) : List Value) 42 false) →
    (List.length l49 = 1024) ∧ ∃ h51 : AH, stN h50 h34.next 0 l49 = some h51 ∧
    (∃ I52 : Int → Nat → AH → Prop, (∃ n, I52 0 n h51) ∧
    ∀ (k53 : Nat) (h54 : AH) (i56 : Int), I52 i56 k53 h54 →
    ((i56 : Int) < ((n39 : Nat) : Int) → derefP p38 fun b57 o58 => (((0 : Int) ≤ i56) ∧ ((i56 : Int) < ((n39 : Nat) : Int)) ∧
    (∃ i59 : Int, ∃ i60 : Int, ∃ i61 : Int, ldN h54 b57 (o58 + Int.toNat i56 * 3) 3 = some ([(.int .i64 i59), (.int .u64 i60), (.int .u32 i61)] : List Value) ∧
    (∀ h62 : AH, h62 = h54.alloc (.cells ([(.int .i64 0), (.int .u64 0), (.int .u32 0)] : List Value) 36 false) →
    (List.length ([(.int .i64 i59), (.int .u64 i60), (.int .u32 i61)] : List Value) = 3) ∧ ∃ h63 : AH, stN h62 h54.next 0 ([(.int .i64 i59), (.int .u64 i60), (.int .u32 i61)] : List Value) = some h63 ∧
    (∃ i64 : Int, ld1 h63 h54.next 0 = some (.int .i64 i64) ∧
    (((0 : Int) ≤ i64) ∧ ((i64 : Int) < 1024) ∧
    (((ld1 h63 h34.next (0 + Int.toNat i64 * 1) = some (.bool true) ∧
    (Q (.bool false) h63)) ∨ (ld1 h63 h34.next (0 + Int.toNat i64 * 1) = some (.bool false) ∧
    (∃ i65 : Int, ld1 h63 h54.next 0 = some (.int .i64 i65) ∧
    (((0 : Int) ≤ i65) ∧ ((i65 : Int) < 1024) ∧
    (∃ h66 : AH, st1 h63 h34.next (0 + Int.toNat i65 * 1) (.bool true) = some h66 ∧
    (∀ i67 : Int, i67 = IntKind.wrap .i64 (i56 + 1) → ∃ j55, j55 < k53 ∧ I52 i67 j55 h66))))))))))))) ∧
    (¬ (i56 : Int) < ((n39 : Nat) : Int) → ∃ I68 : Int → Nat → AH → Prop, (∃ n, I68 0 n h54) ∧
    ∀ (k69 : Nat) (h70 : AH) (i72 : Int), I68 i72 k69 h70 →
    ((i72 : Int) < ((n14 : Nat) : Int) → derefP p13 fun b73 o74 => (((0 : Int) ≤ i72) ∧ ((i72 : Int) < ((n14 : Nat) : Int)) ∧
    (∃ i75 : Int, ld1 h70 b73 (o74 + Int.toNat i72 * 1) = some (.int .i64 i75) ∧
    (((0 : Int) ≤ i75) ∧ ((i75 : Int) < 1024) ∧
    (((ld1 h70 h34.next (0 + Int.toNat i75 * 1) = some (.bool true) ∧
    (∀ i76 : Int, i76 = IntKind.wrap .i64 (i72 + 1) → ∃ j71, j71 < k69 ∧ I68 i76 j71 h70)) ∨ (ld1 h70 h34.next (0 + Int.toNat i75 * 1) = some (.bool false) ∧
    (Q (.bool false) h70)))))))) ∧
    (¬ (i72 : Int) < ((n14 : Nat) : Int) → Q (.bool true) h70))))) ∧
    (¬ (i44 : Int) = i48 → Q (.bool false) h34)))))) ∧
    (¬ (((n39 : Nat) : Int) : Int) = i4 → Q (.bool false) h34)) ∧
    (¬ s42 = s43 → Q (.bool false) h34)))) ∧
    (¬ (i41 : Int) = 0 → Q (.bool false) h34)) ∧
    (¬ (i27 : Int) = 0 → Q (.bool false) h34))))))))))))))))) ∧
    (¬ (((na0 : Nat) : Int) : Int) = 0 → ((65535 : Int) < ((na0 : Nat) : Int) → ((900 : Int) < i4 → Q (.bool false) h3) ∧
    (¬ (900 : Int) < i4 → ((i4 : Int) = 0 → Q (.bool true) h3) ∧
    (¬ (i4 : Int) = 0 → Wf Try.prog K 8 [(.int .i64 1024)] h3 fun r77 h78 =>
    (∃ p79 : Option Addr, r77 = (.pointer p79) ∧
    (Wf Try.prog K 9 [(.pointer p79)] h78 fun r80 h81 =>
    (∃ p82 : Option Addr, r80 = (.pointer p82) ∧
    (Wf Try.prog K 10 [(.pointer p82), (.int .i64 i4)] h81 fun r83 h84 =>
    (∃ (p85 : Option Addr) (n86 c87 : Nat), ∃ i88 : Int, r83 = (.tuple #[(.slice p85 n86 c87), (.int .i64 i88)]) ∧
    (∀ h89 : AH, h89 = h84.alloc (.cells ([] : List Value) 5 false) →
    ∃ (p90 : Option Addr) (n91 c92 : Nat) (h93 : AH), aBuiltin Try.prog h89 .append #[22, 22] [(.slice (some ⟨h84.next, 0, none⟩) 0 0), (.slice pa0 na0 ca0)] = some (.slice p90 n91 c92, h93) ∧
    (Wf Try.prog K 11 [(.pointer p79), (.slice p90 n91 c92), (.slice p85 n86 c87)] h93 fun r94 h95 =>
    (∃ i96 : Int, ∃ i97 : Int, ∃ i98 : Int, ∃ i99 : Int, r94 = (.tuple #[(.agg #[(.int .i64 i96), (.int .u64 i97), (.int .u32 i98)]), (.int .i64 i99)]) ∧
    (∀ h100 : AH, h100 = h95.alloc (.cells ([(.int .i64 0), (.int .u64 0), (.int .u32 0)] : List Value) 36 false) →
    (List.length ([(.int .i64 i96), (.int .u64 i97), (.int .u32 i98)] : List Value) = 3) ∧ ∃ h101 : AH, stN h100 h95.next 0 ([(.int .i64 i96), (.int .u64 i97), (.int .u32 i98)] : List Value) = some h101 ∧
    (∃ i102 : Int, ∃ i103 : Int, ∃ i104 : Int, ldN h101 h95.next 0 3 = some ([(.int .i64 i102), (.int .u64 i103), (.int .u32 i104)] : List Value) ∧
    (Wf Try.prog K 12 [(.pointer p79), (.agg #[(.int .i64 i102), (.int .u64 i103), (.int .u32 i104)]), (.int .i64 ((na0 : Nat) : Int))] h101 fun r105 h106 =>
    (∃ (p107 : Option Addr) (n108 c109 : Nat), ∃ (p110 : Option Addr) (n111 c112 : Nat), ∃ i113 : Int, r105 = (.tuple #[(.slice p107 n108 c109), (.slice p110 n111 c112), (.int .i64 i113)]) ∧
    (((i99 : Int) = 0 → ((i113 : Int) = 0 → ∃ s114 : ByteArray, aConvert Try.prog h106 22 9 (.slice p107 n108 c109) = some (.string s114, h106) ∧
    (∃ s115 : ByteArray, aConvert Try.prog h106 22 9 (.slice pa0 na0 ca0) = some (.string s115, h106) ∧
    ((s114 = s115 → ((((n111 : Nat) : Int) : Int) = i4 → ∃ i116 : Int, ld1 h106 h95.next 0 = some (.int .i64 i116) ∧
    (∀ i117 : Int, i117 = IntKind.wrap .i64 (i4 - 1) → derefP p85 fun b118 o119 => (((0 : Int) ≤ i117) ∧ ((i117 : Int) < ((n86 : Nat) : Int)) ∧
    (∃ i120 : Int, ld1 h106 b118 (o119 + Int.toNat i117 * 1) = some (.int .i64 i120) ∧
    (((i116 : Int) = i120 → ∃ l121 : List Value, aBuild Try.prog 42 #[] = some (.agg l121.toArray) ∧
    (∀ h122 : AH, h122 = h106.alloc (.cells (List.replicate 1024 (.bool false) : List Value) 42 false) →
    (List.length l121 = 1024) ∧ ∃ h123 : AH, stN h122 h106.next 0 l121 = some h123 ∧
    (∃ I124 : Int → Nat → AH → Prop, (∃ n, I124 0 n h123) ∧
    ∀ (k125 : Nat) (h126 : AH) (i128 : Int), I124 i128 k125 h126 →
    ((i128 : Int) < ((n111 : Nat) : Int) → derefP p110 fun b129 o130 => (((0 : Int) ≤ i128) ∧ ((i128 : Int) < ((n111 : Nat) : Int)) ∧
    (∃ i131 : Int, ∃ i132 : Int, ∃ i133 : Int, ldN h126 b129 (o130 + Int.toNat i128 * 3) 3 = some ([(.int .i64 i131), (.int .u64 i132), (.int .u32 i133)] : List Value) ∧
    (∀ h134 : AH, h134 = h126.alloc (.cells ([(.int .i64 0), (.int .u64 0), (.int .u32 0)] : List Value) 36 false) →
    (List.length ([(.int .i64 i131), (.int .u64 i132), (.int .u32 i133)] : List Value) = 3) ∧ ∃ h135 : AH, stN h134 h126.next 0 ([(.int .i64 i131), (.int .u64 i132), (.int .u32 i133)] : List Value) = some h135 ∧
    (∃ i136 : Int, ld1 h135 h126.next 0 = some (.int .i64 i136) ∧
    (((0 : Int) ≤ i136) ∧ ((i136 : Int) < 1024) ∧
    (((ld1 h135 h106.next (0 + Int.toNat i136 * 1) = some (.bool true) ∧
    (Q (.bool false) h135)) ∨ (ld1 h135 h106.next (0 + Int.toNat i136 * 1) = some (.bool false) ∧
    (∃ i137 : Int, ld1 h135 h126.next 0 = some (.int .i64 i137) ∧
    (((0 : Int) ≤ i137) ∧ ((i137 : Int) < 1024) ∧
    (∃ h138 : AH, st1 h135 h106.next (0 + Int.toNat i137 * 1) (.bool true) = some h138 ∧
    (∀ i139 : Int, i139 = IntKind.wrap .i64 (i128 + 1) → ∃ j127, j127 < k125 ∧ I124 i139 j127 h138))))))))))))) ∧
    (¬ (i128 : Int) < ((n111 : Nat) : Int) → ∃ I140 : Int → Nat → AH → Prop, (∃ n, I140 0 n h126) ∧
    ∀ (k141 : Nat) (h142 : AH) (i144 : Int), I140 i144 k141 h142 →
    ((i144 : Int) < ((n86 : Nat) : Int) → derefP p85 fun b145 o146 => (((0 : Int) ≤ i144) ∧ ((i144 : Int) < ((n86 : Nat) : Int)) ∧
    (∃ i147 : Int, ld1 h142 b145 (o146 + Int.toNat i144 * 1) = some (.int .i64 i147) ∧
    (((0 : Int) ≤ i147) ∧ ((i147 : Int) < 1024) ∧
    (((ld1 h142 h106.next (0 + Int.toNat i147 * 1) = some (.bool true) ∧
    (∀ i148 : Int, i148 = IntKind.wrap .i64 (i144 + 1) → ∃ j143, j143 < k141 ∧ I140 i148 j143 h142)) ∨ (ld1 h142 h106.next (0 + Int.toNat i147 * 1) = some (.bool false) ∧
    (Q (.bool false) h142)))))))) ∧
    (¬ (i144 : Int) < ((n86 : Nat) : Int) → Q (.bool true) h142))))) ∧
    (¬ (i116 : Int) = i120 → Q (.bool false) h106)))))) ∧
    (¬ (((n111 : Nat) : Int) : Int) = i4 → Q (.bool false) h106)) ∧
    (¬ s114 = s115 → Q (.bool false) h106)))) ∧
    (¬ (i113 : Int) = 0 → Q (.bool false) h106)) ∧
    (¬ (i99 : Int) = 0 → Q (.bool false) h106))))))))))))))))) ∧
    (¬ (65535 : Int) < ((na0 : Nat) : Int) → Q (.bool false) h3))) ∧
    (¬ (i4 : Int) = 0 → ((((na0 : Nat) : Int) : Int) = 0 → Q (.bool false) h3) ∧
    (¬ (((na0 : Nat) : Int) : Int) = 0 → ((65535 : Int) < ((na0 : Nat) : Int) → Q (.bool false) h3) ∧
    (¬ (65535 : Int) < ((na0 : Nat) : Int) → ((900 : Int) < i4 → Q (.bool false) h3) ∧
    (¬ (900 : Int) < i4 → ((i4 : Int) = 0 → Q (.bool true) h3) ∧
    (¬ (i4 : Int) = 0 → Wf Try.prog K 8 [(.int .i64 1024)] h3 fun r149 h150 =>
    (∃ p151 : Option Addr, r149 = (.pointer p151) ∧
    (Wf Try.prog K 9 [(.pointer p151)] h150 fun r152 h153 =>
    (∃ p154 : Option Addr, r152 = (.pointer p154) ∧
    (Wf Try.prog K 10 [(.pointer p154), (.int .i64 i4)] h153 fun r155 h156 =>
    (∃ (p157 : Option Addr) (n158 c159 : Nat), ∃ i160 : Int, r155 = (.tuple #[(.slice p157 n158 c159), (.int .i64 i160)]) ∧
    (∀ h161 : AH, h161 = h156.alloc (.cells ([] : List Value) 5 false) →
    ∃ (p162 : Option Addr) (n163 c164 : Nat) (h165 : AH), aBuiltin Try.prog h161 .append #[22, 22] [(.slice (some ⟨h156.next, 0, none⟩) 0 0), (.slice pa0 na0 ca0)] = some (.slice p162 n163 c164, h165) ∧
    (Wf Try.prog K 11 [(.pointer p151), (.slice p162 n163 c164), (.slice p157 n158 c159)] h165 fun r166 h167 =>
    (∃ i168 : Int, ∃ i169 : Int, ∃ i170 : Int, ∃ i171 : Int, r166 = (.tuple #[(.agg #[(.int .i64 i168), (.int .u64 i169), (.int .u32 i170)]), (.int .i64 i171)]) ∧
    (∀ h172 : AH, h172 = h167.alloc (.cells ([(.int .i64 0), (.int .u64 0), (.int .u32 0)] : List Value) 36 false) →
    (List.length ([(.int .i64 i168), (.int .u64 i169), (.int .u32 i170)] : List Value) = 3) ∧ ∃ h173 : AH, stN h172 h167.next 0 ([(.int .i64 i168), (.int .u64 i169), (.int .u32 i170)] : List Value) = some h173 ∧
    (∃ i174 : Int, ∃ i175 : Int, ∃ i176 : Int, ldN h173 h167.next 0 3 = some ([(.int .i64 i174), (.int .u64 i175), (.int .u32 i176)] : List Value) ∧
    (Wf Try.prog K 12 [(.pointer p151), (.agg #[(.int .i64 i174), (.int .u64 i175), (.int .u32 i176)]), (.int .i64 ((na0 : Nat) : Int))] h173 fun r177 h178 =>
    (∃ (p179 : Option Addr) (n180 c181 : Nat), ∃ (p182 : Option Addr) (n183 c184 : Nat), ∃ i185 : Int, r177 = (.tuple #[(.slice p179 n180 c181), (.slice p182 n183 c184), (.int .i64 i185)]) ∧
    (((i171 : Int) = 0 → ((i185 : Int) = 0 → ∃ s186 : ByteArray, aConvert Try.prog h178 22 9 (.slice p179 n180 c181) = some (.string s186, h178) ∧
    (∃ s187 : ByteArray, aConvert Try.prog h178 22 9 (.slice pa0 na0 ca0) = some (.string s187, h178) ∧
    ((s186 = s187 → ((((n183 : Nat) : Int) : Int) = i4 → ∃ i188 : Int, ld1 h178 h167.next 0 = some (.int .i64 i188) ∧
    (∀ i189 : Int, i189 = IntKind.wrap .i64 (i4 - 1) → derefP p157 fun b190 o191 => (((0 : Int) ≤ i189) ∧ ((i189 : Int) < ((n158 : Nat) : Int)) ∧
    (∃ i192 : Int, ld1 h178 b190 (o191 + Int.toNat i189 * 1) = some (.int .i64 i192) ∧
    (((i188 : Int) = i192 → ∃ l193 : List Value, aBuild Try.prog 42 #[] = some (.agg l193.toArray) ∧
    (∀ h194 : AH, h194 = h178.alloc (.cells (List.replicate 1024 (.bool false) : List Value) 42 false) →
    (List.length l193 = 1024) ∧ ∃ h195 : AH, stN h194 h178.next 0 l193 = some h195 ∧
    (∃ I196 : Int → Nat → AH → Prop, (∃ n, I196 0 n h195) ∧
    ∀ (k197 : Nat) (h198 : AH) (i200 : Int), I196 i200 k197 h198 →
    ((i200 : Int) < ((n183 : Nat) : Int) → derefP p182 fun b201 o202 => (((0 : Int) ≤ i200) ∧ ((i200 : Int) < ((n183 : Nat) : Int)) ∧
    (∃ i203 : Int, ∃ i204 : Int, ∃ i205 : Int, ldN h198 b201 (o202 + Int.toNat i200 * 3) 3 = some ([(.int .i64 i203), (.int .u64 i204), (.int .u32 i205)] : List Value) ∧
    (∀ h206 : AH, h206 = h198.alloc (.cells ([(.int .i64 0), (.int .u64 0), (.int .u32 0)] : List Value) 36 false) →
    (List.length ([(.int .i64 i203), (.int .u64 i204), (.int .u32 i205)] : List Value) = 3) ∧ ∃ h207 : AH, stN h206 h198.next 0 ([(.int .i64 i203), (.int .u64 i204), (.int .u32 i205)] : List Value) = some h207 ∧
    (∃ i208 : Int, ld1 h207 h198.next 0 = some (.int .i64 i208) ∧
    (((0 : Int) ≤ i208) ∧ ((i208 : Int) < 1024) ∧
    (((ld1 h207 h178.next (0 + Int.toNat i208 * 1) = some (.bool true) ∧
    (Q (.bool false) h207)) ∨ (ld1 h207 h178.next (0 + Int.toNat i208 * 1) = some (.bool false) ∧
    (∃ i209 : Int, ld1 h207 h198.next 0 = some (.int .i64 i209) ∧
    (((0 : Int) ≤ i209) ∧ ((i209 : Int) < 1024) ∧
    (∃ h210 : AH, st1 h207 h178.next (0 + Int.toNat i209 * 1) (.bool true) = some h210 ∧
    (∀ i211 : Int, i211 = IntKind.wrap .i64 (i200 + 1) → ∃ j199, j199 < k197 ∧ I196 i211 j199 h210))))))))))))) ∧
    (¬ (i200 : Int) < ((n183 : Nat) : Int) → ∃ I212 : Int → Nat → AH → Prop, (∃ n, I212 0 n h198) ∧
    ∀ (k213 : Nat) (h214 : AH) (i216 : Int), I212 i216 k213 h214 →
    ((i216 : Int) < ((n158 : Nat) : Int) → derefP p157 fun b217 o218 => (((0 : Int) ≤ i216) ∧ ((i216 : Int) < ((n158 : Nat) : Int)) ∧
    (∃ i219 : Int, ld1 h214 b217 (o218 + Int.toNat i216 * 1) = some (.int .i64 i219) ∧
    (((0 : Int) ≤ i219) ∧ ((i219 : Int) < 1024) ∧
    (((ld1 h214 h178.next (0 + Int.toNat i219 * 1) = some (.bool true) ∧
    (∀ i220 : Int, i220 = IntKind.wrap .i64 (i216 + 1) → ∃ j215, j215 < k213 ∧ I212 i220 j215 h214)) ∨ (ld1 h214 h178.next (0 + Int.toNat i219 * 1) = some (.bool false) ∧
    (Q (.bool false) h214)))))))) ∧
    (¬ (i216 : Int) < ((n158 : Nat) : Int) → Q (.bool true) h214))))) ∧
    (¬ (i188 : Int) = i192 → Q (.bool false) h178)))))) ∧
    (¬ (((n183 : Nat) : Int) : Int) = i4 → Q (.bool false) h178)) ∧
    (¬ s186 = s187 → Q (.bool false) h178)))) ∧
    (¬ (i185 : Int) = 0 → Q (.bool false) h178)) ∧
    (¬ (i171 : Int) = 0 → Q (.bool false) h178))))))))))))))))))))))) ∨ (r0 = (.bool false) ∧
    (Q (.bool false) h1))))) :
    Wf Try.prog K 3 [(.slice pa0 na0 ca0)] h Q :=
  vcF_sound (hs := [(16, [(97, .int .i64 0)]), (23, [(111, .int .i64 0)])]) hk (Eq.mpr (by kernel_rfl) H)
theorem vc_aquiferlaw12_BlobSpoils {K : Xs} (hk : K 5 = none) (pa0 : Option Addr) (na0 ca0 : Nat) (ia1 : Int) (la2 : List Value) (h : AH) (Q : Value → AH → Prop) (H :
    ∀ h0 : AH, h0 = h.alloc (.cells la2 46 false) →
    Wf Try.prog K 6 [] h0 fun r1 h2 =>
    (((r1 = (.bool true) ∧
    (Wf Try.prog K 7 [(.int .i64 ((na0 : Nat) : Int))] h2 fun r3 h4 =>
    (∃ i5 : Int, r3 = (.int .i64 i5) ∧
    (((i5 : Int) = 0 → Q (.bool true) h4) ∧
    (¬ (i5 : Int) = 0 → ((100 : Int) < i5 → Q (.bool true) h4) ∧
    (¬ (100 : Int) < i5 → ((ia1 : Int) < 0 → Q (.bool true) h4) ∧
    (¬ (ia1 : Int) < 0 → ((i5 : Int) ≤ ia1 → Q (.bool true) h4) ∧
    (¬ (i5 : Int) ≤ ia1 → Wf Try.prog K 8 [(.int .i64 256)] h4 fun r6 h7 =>
    (∃ p8 : Option Addr, r6 = (.pointer p8) ∧
    (Wf Try.prog K 9 [(.pointer p8)] h7 fun r9 h10 =>
    (∃ p11 : Option Addr, r9 = (.pointer p11) ∧
    (Wf Try.prog K 10 [(.pointer p11), (.int .i64 i5)] h10 fun r12 h13 =>
    (∃ (p14 : Option Addr) (n15 c16 : Nat), ∃ i17 : Int, r12 = (.tuple #[(.slice p14 n15 c16), (.int .i64 i17)]) ∧
    (∀ h18 : AH, h18 = h13.alloc (.cells ([] : List Value) 5 false) →
    ∃ (p19 : Option Addr) (n20 c21 : Nat) (h22 : AH), aBuiltin Try.prog h18 .append #[22, 22] [(.slice (some ⟨h13.next, 0, none⟩) 0 0), (.slice pa0 na0 ca0)] = some (.slice p19 n20 c21, h22) ∧
    (Wf Try.prog K 11 [(.pointer p8), (.slice p19 n20 c21), (.slice p14 n15 c16)] h22 fun r23 h24 =>
    (∃ i25 : Int, ∃ i26 : Int, ∃ i27 : Int, ∃ i28 : Int, r23 = (.tuple #[(.agg #[(.int .i64 i25), (.int .u64 i26), (.int .u32 i27)]), (.int .i64 i28)]) ∧
    (∀ h29 : AH, h29 = h24.alloc (.cells ([(.int .i64 0), (.int .u64 0), (.int .u32 0)] : List Value) 36 false) →
    (List.length ([(.int .i64 i25), (.int .u64 i26), (.int .u32 i27)] : List Value) = 3) ∧ ∃ h30 : AH, stN h29 h24.next 0 ([(.int .i64 i25), (.int .u64 i26), (.int .u32 i27)] : List Value) = some h30 ∧
    (∃ i31 : Int, ∃ i32 : Int, ∃ i33 : Int, ldN h30 h24.next 0 3 = some ([(.int .i64 i31), (.int .u64 i32), (.int .u32 i33)] : List Value) ∧
    (Wf Try.prog K 12 [(.pointer p8), (.agg #[(.int .i64 i31), (.int .u64 i32), (.int .u32 i33)]), (.int .i64 ((na0 : Nat) : Int))] h30 fun r34 h35 =>
    (∃ (p36 : Option Addr) (n37 c38 : Nat), ∃ (p39 : Option Addr) (n40 c41 : Nat), ∃ i42 : Int, r34 = (.tuple #[(.slice p36 n37 c38), (.slice p39 n40 c41), (.int .i64 i42)]) ∧
    (((i42 : Int) = 0 → ((((n40 : Nat) : Int) : Int) = i5 → Wf Try.prog K 13 [(.pointer p8)] h35 fun r43 h44 =>
    (∃ p45 : Option Addr, r43 = (.pointer p45) ∧
    (derefP p39 fun b46 o47 => (((0 : Int) ≤ ia1) ∧ ((ia1 : Int) < ((n40 : Nat) : Int)) ∧
    (∃ i48 : Int, ld1 h44 b46 (o47 + Int.toNat ia1 * 3) = some (.int .i64 i48) ∧
    (Wf Try.prog K 14 [(.pointer p45), (.int .i64 i48)] h44 fun r49 h50 =>
    (∃ l51 : List Value, ∃ i52 : Int, r49 = (.tuple #[(.agg l51.toArray), (.int .i64 i52)]) ∧
    (∀ h53 : AH, h53 = h50.alloc (.cells (List.replicate 128 (.int .u8 0) : List Value) 46 false) →
    (List.length l51 = 128) ∧ ∃ h54 : AH, stN h53 h50.next 0 l51 = some h54 ∧
    ((ld1 h35 b46 (o47 + Int.toNat ia1 * 3) = some (.int .i64 i48)) ∧
    ((ld1 h44 b46 (o47 + Int.toNat ia1 * 3) = some (.int .i64 i48)) ∧
    (Wf Try.prog K 13 [(.pointer p8)] h54 fun r55 h56 =>
    (∃ p57 : Option Addr, r55 = (.pointer p57) ∧
    (derefP p39 fun b58 o59 => (((0 : Int) ≤ ia1) ∧ ((ia1 : Int) < ((n40 : Nat) : Int)) ∧
    (∃ i60 : Int, ld1 h56 b58 (o59 + Int.toNat ia1 * 3) = some (.int .i64 i60) ∧
    (∃ l61 : List Value, ldN h56 h.next 0 128 = some l61 ∧
    (Wf Try.prog K 15 [(.pointer p57), (.int .i64 i60), (.agg l61.toArray)] h56 fun r62 h63 =>
    (∃ i64 : Int, r62 = (.int .i64 i64) ∧
    ((ld1 h54 b58 (o59 + Int.toNat ia1 * 3) = some (.int .i64 i60)) ∧
    ((ld1 h56 b58 (o59 + Int.toNat ia1 * 3) = some (.int .i64 i60)) ∧
    (vSelfL l61 ((ldN h54 h.next 0 128 = some l61) ∧
    (vSelfL l61 ((ldN h56 h.next 0 128 = some l61) ∧
    (derefP p39 fun b65 o66 => (((0 : Int) ≤ ia1) ∧ ((ia1 : Int) < ((n40 : Nat) : Int)) ∧
    (∃ i67 : Int, ∃ i68 : Int, ∃ i69 : Int, ldN h63 b65 (o66 + Int.toNat ia1 * 3) 3 = some ([(.int .i64 i67), (.int .u64 i68), (.int .u32 i69)] : List Value) ∧
    (Wf Try.prog K 16 [(.pointer p8), (.agg #[(.int .i64 i67), (.int .u64 i68), (.int .u32 i69)])] h63 fun r70 h71 =>
    (∃ l72 : List Value, ∃ i73 : Int, r70 = (.tuple #[(.agg l72.toArray), (.int .i64 i73)]) ∧
    (∀ h74 : AH, h74 = h71.alloc (.cells (List.replicate 128 (.int .u8 0) : List Value) 46 false) →
    (List.length l72 = 128) ∧ ∃ h75 : AH, stN h74 h71.next 0 l72 = some h75 ∧
    (∃ i76 : Int, ∃ i77 : Int, ∃ i78 : Int, ldN h75 h24.next 0 3 = some ([(.int .i64 i76), (.int .u64 i77), (.int .u32 i78)] : List Value) ∧
    (Wf Try.prog K 12 [(.pointer p8), (.agg #[(.int .i64 i76), (.int .u64 i77), (.int .u32 i78)]), (.int .i64 ((na0 : Nat) : Int))] h75 fun r79 h80 =>
    (∃ (p81 : Option Addr) (n82 c83 : Nat), ∃ (p84 : Option Addr) (n85 c86 : Nat), ∃ i87 : Int, r79 = (.tuple #[(.slice p81 n82 c83), (.slice p84 n85 c86), (.int .i64 i87)]) ∧
    (∃ l88 : List Value, ldN h80 h.next 0 128 = some l88 ∧
    (∃ l89 : List Value, ldN h80 h50.next 0 128 = some l89 ∧
    (∃ la90 lb91, keyA Try.prog 46 (.agg l88.toArray) = some la90 ∧ keyA Try.prog 46 (.agg l89.toArray) = some lb91 ∧
    (litsEq la90 lb91 = true → ((i87 : Int) = 0 → ∃ s92 : ByteArray, aConvert Try.prog h80 22 9 (.slice p81 n82 c83) = some (.string s92, h80) ∧
    (∃ s93 : ByteArray, aConvert Try.prog h80 22 9 (.slice pa0 na0 ca0) = some (.string s93, h80) ∧
    ((s92 = s93 → Q (.bool true) h80) ∧
    (¬ s92 = s93 → Q (.bool false) h80)))) ∧
    (¬ (i87 : Int) = 0 → Q (.bool false) h80)) ∧
    (litsEq la90 lb91 = false → ((i73 : Int) = 0 → Q (.bool true) h80) ∧
    (¬ (i73 : Int) = 0 → ((i87 : Int) = 91 → ∀ i94 : Int, i94 = IntKind.wrap .i64 (((n82 : Nat) : Int) + ((n85 : Nat) : Int)) → ((i94 : Int) = 0 → Q (.bool true) h80) ∧
    (¬ (i94 : Int) = 0 → Q (.bool false) h80)) ∧
    (¬ (i87 : Int) = 91 → Q (.bool false) h80))))))))))))))))))))))))))))))))))))))) ∧
    (¬ (((n40 : Nat) : Int) : Int) = i5 → Q (.bool false) h35)) ∧
    (¬ (i42 : Int) = 0 → Q (.bool false) h35)))))))))))))))))))))) ∨ (r1 = (.bool false) ∧
    (Q (.bool false) h2))))) :
    Wf Try.prog K 5 [(.slice pa0 na0 ca0), (.int .i64 ia1), (.agg la2.toArray)] h Q :=
  vcF_sound (hs := []) hk (Eq.mpr (by kernel_rfl) H)
end Go.Am
