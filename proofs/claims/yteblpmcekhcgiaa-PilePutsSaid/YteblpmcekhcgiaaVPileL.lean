/-
  WEAKEST CONDITIONS of some functions of this program, printed by a program.
-/
import Derived.Test.YteblpmcekhcgiaaAmG
import Derived.Test.YteblpmcekhcgiaaRows
set_option linter.unusedVariables false
set_option maxRecDepth 100000
namespace Go.Am
open Go.Proofs
theorem vc_aquiferlaw09_PileLives {K : Xs} (hk : K 4 = none) (ia0 : Int) (ia1 : Int) (h : AH) (Q : Value → AH → Prop) (H :
    Wf Try.prog K 7 [] h fun r0 h1 =>
    (((r0 = (.bool true) ∧
    (((ia0 : Int) < 0 → Q (.bool true) h1) ∧
    (¬ (ia0 : Int) < 0 → ((50 : Int) < ia0 → Q (.bool true) h1) ∧
    (¬ (50 : Int) < ia0 → ((ia1 : Int) < 0 → Q (.bool true) h1) ∧
    (¬ (ia1 : Int) < 0 → ((50 : Int) < ia1 → Q (.bool true) h1) ∧
    (¬ (50 : Int) < ia1 → Wf Try.prog K 8 [(.int .i64 64)] h1 fun r2 h3 =>
    (∃ p4 : Option Addr, r2 = (.pointer p4) ∧
    (∀ h5 : AH, h5 = h3.alloc (.cells ([] : List Value) 33 false) →
    ∃ I6 : Option Addr → Nat → Nat → Int → Nat → AH → Prop, (∃ n, I6 (some ⟨h3.next, 0, none⟩) 0 0 0 n h5) ∧
    ∀ (k7 : Nat) (h8 : AH) (p10 : Option Addr) (n11 : Nat) (c12 : Nat) (i13 : Int), I6 p10 n11 c12 i13 k7 h8 →
    ((i13 : Int) < ia0 → ∀ i14 : Int, i14 = IntKind.wrap .u8 i13 → ∀ h15 : AH, h15 = h8.alloc (.cells ([(.int .u8 i14)] : List Value) 5 false) →
    Wf Try.prog K 9 [(.pointer p4), (.slice (some ⟨h8.next, 0, none⟩) 1 1)] h15 fun r16 h17 =>
    (∃ i18 : Int, ∃ i19 : Int, ∃ i20 : Int, ∃ i21 : Int, r16 = (.tuple #[(.agg #[(.int .i64 i18), (.int .u64 i19), (.int .u32 i20)]), (.int .i64 i21)]) ∧
    (∀ h22 : AH, h22 = h17.alloc (.cells ([(.int .i64 0), (.int .u64 0), (.int .u32 0)] : List Value) 33 false) →
    (List.length ([(.int .i64 i18), (.int .u64 i19), (.int .u32 i20)] : List Value) = 3) ∧ ∃ h23 : AH, stN h22 h17.next 0 ([(.int .i64 i18), (.int .u64 i19), (.int .u32 i20)] : List Value) = some h23 ∧
    (∃ i24 : Int, ∃ i25 : Int, ∃ i26 : Int, ldN h23 h17.next 0 3 = some ([(.int .i64 i24), (.int .u64 i25), (.int .u32 i26)] : List Value) ∧
    (∀ h27 : AH, h27 = h23.alloc (.cells ([(.int .i64 i24), (.int .u64 i25), (.int .u32 i26)] : List Value) 33 false) →
    ∃ (p28 : Option Addr) (n29 c30 : Nat) (h31 : AH), aBuiltin Try.prog h27 .append #[28, 28] [(.slice p10 n11 c12), (.slice (some ⟨h23.next, 0, none⟩) 1 1)] = some (.slice p28 n29 c30, h31) ∧
    (∀ i32 : Int, i32 = IntKind.wrap .i64 (i13 + 1) → ∃ j9, j9 < k7 ∧ I6 p28 n29 c30 i32 j9 h31)))))) ∧
    (¬ (i13 : Int) < ia0 → Wf Try.prog K 14 [(.pointer p4)] h8 fun r33 h34 =>
    (∃ I35 : Int → Nat → AH → Prop, (∃ n, I35 0 n h34) ∧
    ∀ (k36 : Nat) (h37 : AH) (i39 : Int), I35 i39 k36 h37 →
    ((i39 : Int) < ((n11 : Nat) : Int) → derefP p10 fun b40 o41 => (((0 : Int) ≤ i39) ∧ ((i39 : Int) < ((n11 : Nat) : Int)) ∧
    (∃ i42 : Int, ∃ i43 : Int, ∃ i44 : Int, ldN h37 b40 (o41 + Int.toNat i39 * 3) 3 = some ([(.int .i64 i42), (.int .u64 i43), (.int .u32 i44)] : List Value) ∧
    (∀ h45 : AH, h45 = h37.alloc (.cells ([(.int .i64 0), (.int .u64 0), (.int .u32 0)] : List Value) 33 false) →
    (List.length ([(.int .i64 i42), (.int .u64 i43), (.int .u32 i44)] : List Value) = 3) ∧ ∃ h46 : AH, stN h45 h37.next 0 ([(.int .i64 i42), (.int .u64 i43), (.int .u32 i44)] : List Value) = some h46 ∧
    (∃ i47 : Int, ∃ i48 : Int, ∃ i49 : Int, ldN h46 h37.next 0 3 = some ([(.int .i64 i47), (.int .u64 i48), (.int .u32 i49)] : List Value) ∧
    (Wf Try.prog K 15 [(.pointer p4), (.agg #[(.int .i64 i47), (.int .u64 i48), (.int .u32 i49)])] h46 fun r50 h51 =>
    (∃ i52 : Int, r50 = (.int .i64 i52) ∧
    (((i52 : Int) = 0 → ∃ i53 : Int, ∃ i54 : Int, ∃ i55 : Int, ldN h51 h37.next 0 3 = some ([(.int .i64 i53), (.int .u64 i54), (.int .u32 i55)] : List Value) ∧
    (Wf Try.prog K 15 [(.pointer p4), (.agg #[(.int .i64 i53), (.int .u64 i54), (.int .u32 i55)])] h51 fun r56 h57 =>
    (∃ i58 : Int, r56 = (.int .i64 i58) ∧
    (((i58 : Int) = 72 → ∀ i59 : Int, i59 = IntKind.wrap .i64 (i39 + 1) → ∃ j38, j38 < k36 ∧ I35 i59 j38 h57) ∧
    (¬ (i58 : Int) = 72 → Q (.bool false) h57))))) ∧
    (¬ (i52 : Int) = 0 → Q (.bool false) h51))))))))) ∧
    (¬ (i39 : Int) < ((n11 : Nat) : Int) → ∃ I60 : Int → Nat → AH → Prop, (∃ n, I60 0 n h37) ∧
    ∀ (k61 : Nat) (h62 : AH) (i64 : Int), I60 i64 k61 h62 →
    ((i64 : Int) < ia1 → ∀ i65 : Int, i65 = IntKind.wrap .u8 i64 → ∀ h66 : AH, h66 = h62.alloc (.cells ([(.int .u8 i65), (.int .u8 1)] : List Value) 5 false) →
    Wf Try.prog K 9 [(.pointer p4), (.slice (some ⟨h62.next, 0, none⟩) 2 2)] h66 fun r67 h68 =>
    (∃ i69 : Int, ∃ i70 : Int, ∃ i71 : Int, ∃ i72 : Int, r67 = (.tuple #[(.agg #[(.int .i64 i69), (.int .u64 i70), (.int .u32 i71)]), (.int .i64 i72)]) ∧
    (∀ h73 : AH, h73 = h68.alloc (.cells ([(.int .i64 0), (.int .u64 0), (.int .u32 0)] : List Value) 33 false) →
    (List.length ([(.int .i64 i69), (.int .u64 i70), (.int .u32 i71)] : List Value) = 3) ∧ ∃ h74 : AH, stN h73 h68.next 0 ([(.int .i64 i69), (.int .u64 i70), (.int .u32 i71)] : List Value) = some h74 ∧
    (((i72 : Int) = 0 → ((ia0 : Int) < 60 → ∃ I75 : Int → Nat → AH → Prop, (∃ n, I75 0 n h74) ∧
    ∀ (k76 : Nat) (h77 : AH) (i79 : Int), I75 i79 k76 h77 →
    ((i79 : Int) < ((n11 : Nat) : Int) → derefP p10 fun b80 o81 => (((0 : Int) ≤ i79) ∧ ((i79 : Int) < ((n11 : Nat) : Int)) ∧
    (∃ i82 : Int, ∃ i83 : Int, ∃ i84 : Int, ldN h77 b80 (o81 + Int.toNat i79 * 3) 3 = some ([(.int .i64 i82), (.int .u64 i83), (.int .u32 i84)] : List Value) ∧
    (∀ h85 : AH, h85 = h77.alloc (.cells ([(.int .i64 0), (.int .u64 0), (.int .u32 0)] : List Value) 33 false) →
    (List.length ([(.int .i64 i82), (.int .u64 i83), (.int .u32 i84)] : List Value) = 3) ∧ ∃ h86 : AH, stN h85 h77.next 0 ([(.int .i64 i82), (.int .u64 i83), (.int .u32 i84)] : List Value) = some h86 ∧
    (((i72 : Int) = 0 → ∃ i87 : Int, ld1 h86 h77.next 0 = some (.int .i64 i87) ∧
    (∃ i88 : Int, ld1 h86 h68.next 0 = some (.int .i64 i88) ∧
    (((i87 : Int) = i88 → Q (.bool false) h86) ∧
    (¬ (i87 : Int) = i88 → ∀ i89 : Int, i89 = IntKind.wrap .i64 (i79 + 1) → ∃ j78, j78 < k76 ∧ I75 i89 j78 h86)))) ∧
    (¬ (i72 : Int) = 0 → ∀ i90 : Int, i90 = IntKind.wrap .i64 (i79 + 1) → ∃ j78, j78 < k76 ∧ I75 i90 j78 h86)))))) ∧
    (¬ (i79 : Int) < ((n11 : Nat) : Int) → ((i72 : Int) = 0 → ∃ i91 : Int, ∃ i92 : Int, ∃ i93 : Int, ldN h77 h68.next 0 3 = some ([(.int .i64 i91), (.int .u64 i92), (.int .u32 i93)] : List Value) ∧
    (Wf Try.prog K 15 [(.pointer p4), (.agg #[(.int .i64 i91), (.int .u64 i92), (.int .u32 i93)])] h77 fun r94 h95 =>
    (∃ i96 : Int, r94 = (.int .i64 i96) ∧
    (((i96 : Int) = 0 → Wf Try.prog K 16 [(.pointer p4)] h95 fun r97 h98 =>
    (∃ p99 : Option Addr, r97 = (.pointer p99) ∧
    (Wf Try.prog K 17 [(.pointer p99)] h98 fun r100 h101 =>
    (∃ i102 : Int, r100 = (.int .i64 i102) ∧
    (∀ i103 : Int, i103 = IntKind.wrap .i64 (60 - ia0) → ((i102 : Int) = i103 → ∀ i104 : Int, i104 = IntKind.wrap .i64 (i64 + 1) → ∃ j63, j63 < k61 ∧ I60 i104 j63 h101) ∧
    (¬ (i102 : Int) = i103 → Q (.bool false) h101)))))) ∧
    (¬ (i96 : Int) = 0 → Q (.bool false) h95))))) ∧
    (¬ (i72 : Int) = 0 → ∀ i105 : Int, i105 = IntKind.wrap .i64 (i64 + 1) → ∃ j63, j63 < k61 ∧ I60 i105 j63 h77))) ∧
    (¬ (ia0 : Int) < 60 → Q (.bool false) h74)) ∧
    (¬ (i72 : Int) = 0 → ((ia0 : Int) < 60 → Q (.bool false) h74) ∧
    (¬ (ia0 : Int) < 60 → ∃ I106 : Int → Nat → AH → Prop, (∃ n, I106 0 n h74) ∧
    ∀ (k107 : Nat) (h108 : AH) (i110 : Int), I106 i110 k107 h108 →
    ((i110 : Int) < ((n11 : Nat) : Int) → derefP p10 fun b111 o112 => (((0 : Int) ≤ i110) ∧ ((i110 : Int) < ((n11 : Nat) : Int)) ∧
    (∃ i113 : Int, ∃ i114 : Int, ∃ i115 : Int, ldN h108 b111 (o112 + Int.toNat i110 * 3) 3 = some ([(.int .i64 i113), (.int .u64 i114), (.int .u32 i115)] : List Value) ∧
    (∀ h116 : AH, h116 = h108.alloc (.cells ([(.int .i64 0), (.int .u64 0), (.int .u32 0)] : List Value) 33 false) →
    (List.length ([(.int .i64 i113), (.int .u64 i114), (.int .u32 i115)] : List Value) = 3) ∧ ∃ h117 : AH, stN h116 h108.next 0 ([(.int .i64 i113), (.int .u64 i114), (.int .u32 i115)] : List Value) = some h117 ∧
    (((i72 : Int) = 0 → ∃ i118 : Int, ld1 h117 h108.next 0 = some (.int .i64 i118) ∧
    (∃ i119 : Int, ld1 h117 h68.next 0 = some (.int .i64 i119) ∧
    (((i118 : Int) = i119 → Q (.bool false) h117) ∧
    (¬ (i118 : Int) = i119 → ∀ i120 : Int, i120 = IntKind.wrap .i64 (i110 + 1) → ∃ j109, j109 < k107 ∧ I106 i120 j109 h117)))) ∧
    (¬ (i72 : Int) = 0 → ∀ i121 : Int, i121 = IntKind.wrap .i64 (i110 + 1) → ∃ j109, j109 < k107 ∧ I106 i121 j109 h117)))))) ∧
    (¬ (i110 : Int) < ((n11 : Nat) : Int) → ((i72 : Int) = 0 → ∃ i122 : Int, ∃ i123 : Int, ∃ i124 : Int, ldN h108 h68.next 0 3 = some ([(.int .i64 i122), (.int .u64 i123), (.int .u32 i124)] : List Value) ∧
    (Wf Try.prog K 15 [(.pointer p4), (.agg #[(.int .i64 i122), (.int .u64 i123), (.int .u32 i124)])] h108 fun r125 h126 =>
    (∃ i127 : Int, r125 = (.int .i64 i127) ∧
    (((i127 : Int) = 0 → Wf Try.prog K 16 [(.pointer p4)] h126 fun r128 h129 =>
    (∃ p130 : Option Addr, r128 = (.pointer p130) ∧
    (Wf Try.prog K 17 [(.pointer p130)] h129 fun r131 h132 =>
    (∃ i133 : Int, r131 = (.int .i64 i133) ∧
    (∀ i134 : Int, i134 = IntKind.wrap .i64 (60 - ia0) → ((i133 : Int) = i134 → ∀ i135 : Int, i135 = IntKind.wrap .i64 (i64 + 1) → ∃ j63, j63 < k61 ∧ I60 i135 j63 h132) ∧
    (¬ (i133 : Int) = i134 → Q (.bool false) h132)))))) ∧
    (¬ (i127 : Int) = 0 → Q (.bool false) h126))))) ∧
    (¬ (i72 : Int) = 0 → ∀ i136 : Int, i136 = IntKind.wrap .i64 (i64 + 1) → ∃ j63, j63 < k61 ∧ I60 i136 j63 h108)))))))) ∧
    (¬ (i64 : Int) < ia1 → Wf Try.prog K 14 [(.pointer p4)] h62 fun r137 h138 =>
    (Wf Try.prog K 16 [(.pointer p4)] h138 fun r139 h140 =>
    (∃ p141 : Option Addr, r139 = (.pointer p141) ∧
    (Wf Try.prog K 17 [(.pointer p141)] h140 fun r142 h143 =>
    (∃ i144 : Int, r142 = (.int .i64 i144) ∧
    (((i144 : Int) = 60 → Wf Try.prog K 18 [(.pointer p4)] h143 fun r145 h146 =>
    (∃ i147 : Int, r145 = (.int .u64 i147) ∧
    (∀ i148 : Int, i148 = IntKind.wrap .u64 (i147 + 1) → Wf Try.prog K 19 [(.pointer p4)] h146 fun r149 h150 =>
    (∃ i151 : Int, r149 = (.int .u64 i151) ∧
    (((i148 : Int) = i151 → Q (.bool true) h150) ∧
    (¬ (i148 : Int) = i151 → Q (.bool false) h150)))))) ∧
    (¬ (i144 : Int) = 60 → Q (.bool false) h143)))))))))))))))))) ∨ (r0 = (.bool false) ∧
    (Q (.bool false) h1))))) :
    Wf Try.prog K 4 [(.int .i64 ia0), (.int .i64 ia1)] h Q :=
  vcF_sound (hs := [(8, [(6, .slice none 0 0), (7, .int .i64 0)]), (14, [(56, .int .i64 0)]), (20, [(12, .int .i64 0)]), (26, [(91, .int .i64 0)])]) hk (Eq.mpr (by kernel_rfl) H)
theorem vc_aquiferlaw09_PileReads {K : Xs} (hk : K 3 = none) (pa0 : Option Addr) (na0 ca0 : Nat) (ia1 : Int) (la2 : List Value) (h : AH) (Q : Value → AH → Prop) (H :
    ∀ h0 : AH, h0 = h.alloc (.cells la2 24 false) →
    Wf Try.prog K 7 [] h0 fun r1 h2 =>
    (((r1 = (.bool true) ∧
    (((50 : Int) < ((na0 : Nat) : Int) → Q (.bool true) h2) ∧
    (¬ (50 : Int) < ((na0 : Nat) : Int) → Wf Try.prog K 8 [(.int .i64 64)] h2 fun r3 h4 =>
    (∃ p5 : Option Addr, r3 = (.pointer p5) ∧
    (∀ h6 : AH, h6 = h4.alloc (.cells ([] : List Value) 33 false) →
    ∃ I7 : Option Addr → Nat → Nat → Int → Nat → AH → Prop, (∃ n, I7 (some ⟨h4.next, 0, none⟩) 0 0 0 n h6) ∧
    ∀ (k8 : Nat) (h9 : AH) (p11 : Option Addr) (n12 : Nat) (c13 : Nat) (i14 : Int), I7 p11 n12 c13 i14 k8 h9 →
    ((i14 : Int) < ((na0 : Nat) : Int) → derefP pa0 fun b15 o16 => (((0 : Int) ≤ i14) ∧ ((i14 : Int) < ((na0 : Nat) : Int)) ∧
    (∃ (p17 : Option Addr) (n18 c19 : Nat), ld1 h9 b15 (o16 + Int.toNat i14 * 1) = some (.slice p17 n18 c19) ∧
    (∀ h20 : AH, h20 = h9.alloc (.cells ([] : List Value) 5 false) →
    ∃ (p21 : Option Addr) (n22 c23 : Nat) (h24 : AH), aBuiltin Try.prog h20 .append #[29, 29] [(.slice (some ⟨h9.next, 0, none⟩) 0 0), (.slice p17 n18 c19)] = some (.slice p21 n22 c23, h24) ∧
    (Wf Try.prog K 9 [(.pointer p5), (.slice p21 n22 c23)] h24 fun r25 h26 =>
    (∃ i27 : Int, ∃ i28 : Int, ∃ i29 : Int, ∃ i30 : Int, r25 = (.tuple #[(.agg #[(.int .i64 i27), (.int .u64 i28), (.int .u32 i29)]), (.int .i64 i30)]) ∧
    (∀ h31 : AH, h31 = h26.alloc (.cells ([(.int .i64 0), (.int .u64 0), (.int .u32 0)] : List Value) 33 false) →
    (List.length ([(.int .i64 i27), (.int .u64 i28), (.int .u32 i29)] : List Value) = 3) ∧ ∃ h32 : AH, stN h31 h26.next 0 ([(.int .i64 i27), (.int .u64 i28), (.int .u32 i29)] : List Value) = some h32 ∧
    (((i30 : Int) = 0 → ((((n18 : Nat) : Int) : Int) ≤ 128 → ∃ i33 : Int, ∃ i34 : Int, ∃ i35 : Int, ldN h32 h26.next 0 3 = some ([(.int .i64 i33), (.int .u64 i34), (.int .u32 i35)] : List Value) ∧
    (∀ h36 : AH, h36 = h32.alloc (.cells ([(.int .i64 i33), (.int .u64 i34), (.int .u32 i35)] : List Value) 33 false) →
    ∃ (p37 : Option Addr) (n38 c39 : Nat) (h40 : AH), aBuiltin Try.prog h36 .append #[28, 28] [(.slice p11 n12 c13), (.slice (some ⟨h32.next, 0, none⟩) 1 1)] = some (.slice p37 n38 c39, h40) ∧
    (∀ i41 : Int, i41 = IntKind.wrap .i64 (i14 + 1) → ∃ j10, j10 < k8 ∧ I7 p37 n38 c39 i41 j10 h40))) ∧
    (¬ (((n18 : Nat) : Int) : Int) ≤ 128 → Q (.bool false) h32)) ∧
    (¬ (i30 : Int) = 0 → ((((n18 : Nat) : Int) : Int) ≤ 128 → Q (.bool false) h32) ∧
    (¬ (((n18 : Nat) : Int) : Int) ≤ 128 → ∃ i42 : Int, ∃ i43 : Int, ∃ i44 : Int, ldN h32 h26.next 0 3 = some ([(.int .i64 i42), (.int .u64 i43), (.int .u32 i44)] : List Value) ∧
    (∀ h45 : AH, h45 = h32.alloc (.cells ([(.int .i64 i42), (.int .u64 i43), (.int .u32 i44)] : List Value) 33 false) →
    ∃ (p46 : Option Addr) (n47 c48 : Nat) (h49 : AH), aBuiltin Try.prog h45 .append #[28, 28] [(.slice p11 n12 c13), (.slice (some ⟨h32.next, 0, none⟩) 1 1)] = some (.slice p46 n47 c48, h49) ∧
    (∀ i50 : Int, i50 = IntKind.wrap .i64 (i14 + 1) → ∃ j10, j10 < k8 ∧ I7 p46 n47 c48 i50 j10 h49)))))))))))) ∧
    (¬ (i14 : Int) < ((na0 : Nat) : Int) → Wf Try.prog K 10 [(.pointer p5)] h9 fun r51 h52 =>
    (∃ p53 : Option Addr, r51 = (.pointer p53) ∧
    (∃ l54 : List Value, ldN h52 h.next 0 128 = some l54 ∧
    (Wf Try.prog K 11 [(.pointer p53), (.int .i64 ia1), (.agg l54.toArray)] h52 fun r55 h56 =>
    (∃ i57 : Int, r55 = (.int .i64 i57) ∧
    (vSelfL l54 ((ldN h9 h.next 0 128 = some l54) ∧
    (vSelfL l54 ((ldN h52 h.next 0 128 = some l54) ∧
    (∃ I58 : Int → Nat → AH → Prop, (∃ n, I58 0 n h56) ∧
    ∀ (k59 : Nat) (h60 : AH) (i62 : Int), I58 i62 k59 h60 →
    ((i62 : Int) < ((n12 : Nat) : Int) → derefP p11 fun b63 o64 => (((0 : Int) ≤ i62) ∧ ((i62 : Int) < ((n12 : Nat) : Int)) ∧
    (∃ i65 : Int, ∃ i66 : Int, ∃ i67 : Int, ldN h60 b63 (o64 + Int.toNat i62 * 3) 3 = some ([(.int .i64 i65), (.int .u64 i66), (.int .u32 i67)] : List Value) ∧
    (∀ h68 : AH, h68 = h60.alloc (.cells ([(.int .i64 0), (.int .u64 0), (.int .u32 0)] : List Value) 33 false) →
    (List.length ([(.int .i64 i65), (.int .u64 i66), (.int .u32 i67)] : List Value) = 3) ∧ ∃ h69 : AH, stN h68 h60.next 0 ([(.int .i64 i65), (.int .u64 i66), (.int .u32 i67)] : List Value) = some h69 ∧
    (∃ i70 : Int, ∃ i71 : Int, ∃ i72 : Int, ldN h69 h60.next 0 3 = some ([(.int .i64 i70), (.int .u64 i71), (.int .u32 i72)] : List Value) ∧
    (Wf Try.prog K 12 [(.pointer p5), (.agg #[(.int .i64 i70), (.int .u64 i71), (.int .u32 i72)])] h69 fun r73 h74 =>
    (∃ l75 : List Value, ∃ i76 : Int, r73 = (.tuple #[(.agg l75.toArray), (.int .i64 i76)]) ∧
    (∀ h77 : AH, h77 = h74.alloc (.cells (List.replicate 128 (.int .u8 0) : List Value) 24 false) →
    (List.length l75 = 128) ∧ ∃ h78 : AH, stN h77 h74.next 0 l75 = some h78 ∧
    (derefP pa0 fun b79 o80 => (((0 : Int) ≤ i62) ∧ ((i62 : Int) < ((na0 : Nat) : Int)) ∧
    (∃ (p81 : Option Addr) (n82 c83 : Nat), ld1 h78 b79 (o80 + Int.toNat i62 * 1) = some (.slice p81 n82 c83) ∧
    (Wf Try.prog K 13 [(.slice p81 n82 c83)] h78 fun r84 h85 =>
    (∃ l86 : List Value, r84 = (.agg l86.toArray) ∧
    (∀ h87 : AH, h87 = h85.alloc (.cells (List.replicate 128 (.int .u8 0) : List Value) 24 false) →
    (List.length l86 = 128) ∧ ∃ h88 : AH, stN h87 h85.next 0 l86 = some h88 ∧
    (derefP pa0 fun b89 o90 => (((0 : Int) ≤ i62) ∧ ((i62 : Int) < ((na0 : Nat) : Int)) ∧
    (∃ (p91 : Option Addr) (n92 c93 : Nat), ld1 h88 b89 (o90 + Int.toNat i62 * 1) = some (.slice p91 n92 c93) ∧
    (((128 : Int) < ((n92 : Nat) : Int) → ∀ i94 : Int, i94 = IntKind.wrap .i64 (i62 + 1) → ∃ j61, j61 < k59 ∧ I58 i94 j61 h88) ∧
    (¬ (128 : Int) < ((n92 : Nat) : Int) → ∃ i95 : Int, ld1 h88 h60.next 0 = some (.int .i64 i95) ∧
    (((i95 : Int) = ia1 → ((i76 : Int) = 0 → ((i76 : Int) = 0 → ∃ l96 : List Value, ldN h88 h74.next 0 128 = some l96 ∧
    (∃ l97 : List Value, ldN h88 h85.next 0 128 = some l97 ∧
    (∃ la98 lb99, keyA Try.prog 24 (.agg l96.toArray) = some la98 ∧ keyA Try.prog 24 (.agg l97.toArray) = some lb99 ∧
    (litsEq la98 lb99 = true → ∀ i100 : Int, i100 = IntKind.wrap .i64 (i62 + 1) → ∃ j61, j61 < k59 ∧ I58 i100 j61 h88) ∧
    (litsEq la98 lb99 = false → ∃ l101 : List Value, ldN h88 h74.next 0 128 = some l101 ∧
    (∃ l102 : List Value, ldN h88 h.next 0 128 = some l102 ∧
    (∃ la103 lb104, keyA Try.prog 24 (.agg l101.toArray) = some la103 ∧ keyA Try.prog 24 (.agg l102.toArray) = some lb104 ∧
    (litsEq la103 lb104 = true → ∀ i105 : Int, i105 = IntKind.wrap .i64 (i62 + 1) → ∃ j61, j61 < k59 ∧ I58 i105 j61 h88) ∧
    (litsEq la103 lb104 = false → Q (.bool false) h88))))))) ∧
    (¬ (i76 : Int) = 0 → ∀ i106 : Int, i106 = IntKind.wrap .i64 (i62 + 1) → ∃ j61, j61 < k59 ∧ I58 i106 j61 h88)) ∧
    (¬ (i76 : Int) = 0 → ((i76 : Int) = 91 → ∃ l107 : List Value, ldN h88 h74.next 0 128 = some l107 ∧
    (∃ l108 : List Value, aBuild Try.prog 24 #[] = some (.agg l108.toArray) ∧
    (∃ la109 lb110, keyA Try.prog 24 (.agg l107.toArray) = some la109 ∧ keyA Try.prog 24 (.agg l108.toArray) = some lb110 ∧
    (litsEq la109 lb110 = true → ((i76 : Int) = 0 → ∃ l111 : List Value, ldN h88 h74.next 0 128 = some l111 ∧
    (∃ l112 : List Value, ldN h88 h85.next 0 128 = some l112 ∧
    (∃ la113 lb114, keyA Try.prog 24 (.agg l111.toArray) = some la113 ∧ keyA Try.prog 24 (.agg l112.toArray) = some lb114 ∧
    (litsEq la113 lb114 = true → ∀ i115 : Int, i115 = IntKind.wrap .i64 (i62 + 1) → ∃ j61, j61 < k59 ∧ I58 i115 j61 h88) ∧
    (litsEq la113 lb114 = false → ∃ l116 : List Value, ldN h88 h74.next 0 128 = some l116 ∧
    (∃ l117 : List Value, ldN h88 h.next 0 128 = some l117 ∧
    (∃ la118 lb119, keyA Try.prog 24 (.agg l116.toArray) = some la118 ∧ keyA Try.prog 24 (.agg l117.toArray) = some lb119 ∧
    (litsEq la118 lb119 = true → ∀ i120 : Int, i120 = IntKind.wrap .i64 (i62 + 1) → ∃ j61, j61 < k59 ∧ I58 i120 j61 h88) ∧
    (litsEq la118 lb119 = false → Q (.bool false) h88))))))) ∧
    (¬ (i76 : Int) = 0 → ∀ i121 : Int, i121 = IntKind.wrap .i64 (i62 + 1) → ∃ j61, j61 < k59 ∧ I58 i121 j61 h88)) ∧
    (litsEq la109 lb110 = false → Q (.bool false) h88)))) ∧
    (¬ (i76 : Int) = 91 → Q (.bool false) h88))) ∧
    (¬ (i95 : Int) = ia1 → ((i76 : Int) = 0 → ∃ l122 : List Value, ldN h88 h74.next 0 128 = some l122 ∧
    (∃ l123 : List Value, ldN h88 h85.next 0 128 = some l123 ∧
    (∃ la124 lb125, keyA Try.prog 24 (.agg l122.toArray) = some la124 ∧ keyA Try.prog 24 (.agg l123.toArray) = some lb125 ∧
    (litsEq la124 lb125 = true → ((i76 : Int) = 0 → ((i76 : Int) = 0 → ∃ l126 : List Value, ldN h88 h74.next 0 128 = some l126 ∧
    (∃ l127 : List Value, ldN h88 h85.next 0 128 = some l127 ∧
    (∃ la128 lb129, keyA Try.prog 24 (.agg l126.toArray) = some la128 ∧ keyA Try.prog 24 (.agg l127.toArray) = some lb129 ∧
    (litsEq la128 lb129 = true → ∀ i130 : Int, i130 = IntKind.wrap .i64 (i62 + 1) → ∃ j61, j61 < k59 ∧ I58 i130 j61 h88) ∧
    (litsEq la128 lb129 = false → ∃ l131 : List Value, ldN h88 h74.next 0 128 = some l131 ∧
    (∃ l132 : List Value, ldN h88 h.next 0 128 = some l132 ∧
    (∃ la133 lb134, keyA Try.prog 24 (.agg l131.toArray) = some la133 ∧ keyA Try.prog 24 (.agg l132.toArray) = some lb134 ∧
    (litsEq la133 lb134 = true → ∀ i135 : Int, i135 = IntKind.wrap .i64 (i62 + 1) → ∃ j61, j61 < k59 ∧ I58 i135 j61 h88) ∧
    (litsEq la133 lb134 = false → Q (.bool false) h88))))))) ∧
    (¬ (i76 : Int) = 0 → ∀ i136 : Int, i136 = IntKind.wrap .i64 (i62 + 1) → ∃ j61, j61 < k59 ∧ I58 i136 j61 h88)) ∧
    (¬ (i76 : Int) = 0 → ((i76 : Int) = 91 → ∃ l137 : List Value, ldN h88 h74.next 0 128 = some l137 ∧
    (∃ l138 : List Value, aBuild Try.prog 24 #[] = some (.agg l138.toArray) ∧
    (∃ la139 lb140, keyA Try.prog 24 (.agg l137.toArray) = some la139 ∧ keyA Try.prog 24 (.agg l138.toArray) = some lb140 ∧
    (litsEq la139 lb140 = true → ((i76 : Int) = 0 → ∃ l141 : List Value, ldN h88 h74.next 0 128 = some l141 ∧
    (∃ l142 : List Value, ldN h88 h85.next 0 128 = some l142 ∧
    (∃ la143 lb144, keyA Try.prog 24 (.agg l141.toArray) = some la143 ∧ keyA Try.prog 24 (.agg l142.toArray) = some lb144 ∧
    (litsEq la143 lb144 = true → ∀ i145 : Int, i145 = IntKind.wrap .i64 (i62 + 1) → ∃ j61, j61 < k59 ∧ I58 i145 j61 h88) ∧
    (litsEq la143 lb144 = false → ∃ l146 : List Value, ldN h88 h74.next 0 128 = some l146 ∧
    (∃ l147 : List Value, ldN h88 h.next 0 128 = some l147 ∧
    (∃ la148 lb149, keyA Try.prog 24 (.agg l146.toArray) = some la148 ∧ keyA Try.prog 24 (.agg l147.toArray) = some lb149 ∧
    (litsEq la148 lb149 = true → ∀ i150 : Int, i150 = IntKind.wrap .i64 (i62 + 1) → ∃ j61, j61 < k59 ∧ I58 i150 j61 h88) ∧
    (litsEq la148 lb149 = false → Q (.bool false) h88))))))) ∧
    (¬ (i76 : Int) = 0 → ∀ i151 : Int, i151 = IntKind.wrap .i64 (i62 + 1) → ∃ j61, j61 < k59 ∧ I58 i151 j61 h88)) ∧
    (litsEq la139 lb140 = false → Q (.bool false) h88)))) ∧
    (¬ (i76 : Int) = 91 → Q (.bool false) h88))) ∧
    (litsEq la124 lb125 = false → Q (.bool false) h88)))) ∧
    (¬ (i76 : Int) = 0 → Q (.bool false) h88)))))))))))))))))))))) ∧
    (¬ (i62 : Int) < ((n12 : Nat) : Int) → Q (.bool true) h60)))))))))))))))) ∨ (r1 = (.bool false) ∧
    (Q (.bool false) h2))))) :
    Wf Try.prog K 3 [(.slice pa0 na0 ca0), (.int .i64 ia1), (.agg la2.toArray)] h Q :=
  vcF_sound (hs := [(8, [(8, .slice none 0 0), (27, .int .i64 0)]), (17, [(57, .int .i64 0)])]) hk (Eq.mpr (by kernel_rfl) H)
theorem vc_aquiferlaw09_PilePuts {K : Xs} (hk : K 5 = none) (pa0 : Option Addr) (na0 ca0 : Nat) (ia1 : Int) (h : AH) (Q : Value → AH → Prop) (H :
    Wf Try.prog K 7 [] h fun r0 h1 =>
    (((r0 = (.bool true) ∧
    (((80 : Int) < ((na0 : Nat) : Int) → Q (.bool true) h1) ∧
    (¬ (80 : Int) < ((na0 : Nat) : Int) → Wf Try.prog K 8 [(.int .i64 64)] h1 fun r2 h3 =>
    (∃ p4 : Option Addr, r2 = (.pointer p4) ∧
    (∃ l5 : List Value, aBuild Try.prog 50 #[] = some (.agg l5.toArray) ∧
    (∀ h6 : AH, h6 = h3.alloc (.cells (List.replicate 64 (.bool false) : List Value) 50 false) →
    (List.length l5 = 64) ∧ ∃ h7 : AH, stN h6 h3.next 0 l5 = some h7 ∧
    (∃ I8 : Int → Int → Nat → AH → Prop, (∃ n, I8 0 0 n h7) ∧
    ∀ (k9 : Nat) (h10 : AH) (i12 : Int) (i13 : Int), I8 i12 i13 k9 h10 →
    ((i13 : Int) < ((na0 : Nat) : Int) → derefP pa0 fun b14 o15 => (((0 : Int) ≤ i13) ∧ ((i13 : Int) < ((na0 : Nat) : Int)) ∧
    (∃ (p16 : Option Addr) (n17 c18 : Nat), ld1 h10 b14 (o15 + Int.toNat i13 * 1) = some (.slice p16 n17 c18) ∧
    (∀ h19 : AH, h19 = h10.alloc (.cells ([] : List Value) 5 false) →
    ∃ (p20 : Option Addr) (n21 c22 : Nat) (h23 : AH), aBuiltin Try.prog h19 .append #[29, 29] [(.slice (some ⟨h10.next, 0, none⟩) 0 0), (.slice p16 n17 c18)] = some (.slice p20 n21 c22, h23) ∧
    (Wf Try.prog K 9 [(.pointer p4), (.slice p20 n21 c22)] h23 fun r24 h25 =>
    (∃ i26 : Int, ∃ i27 : Int, ∃ i28 : Int, ∃ i29 : Int, r24 = (.tuple #[(.agg #[(.int .i64 i26), (.int .u64 i27), (.int .u32 i28)]), (.int .i64 i29)]) ∧
    (∀ h30 : AH, h30 = h25.alloc (.cells ([(.int .i64 0), (.int .u64 0), (.int .u32 0)] : List Value) 33 false) →
    (List.length ([(.int .i64 i26), (.int .u64 i27), (.int .u32 i28)] : List Value) = 3) ∧ ∃ h31 : AH, stN h30 h25.next 0 ([(.int .i64 i26), (.int .u64 i27), (.int .u32 i28)] : List Value) = some h31 ∧
    (((128 : Int) < ((n17 : Nat) : Int) → ((i29 : Int) = 92 → ∀ i32 : Int, i32 = IntKind.wrap .i64 (i13 + 1) → ∃ j11, j11 < k9 ∧ I8 i12 i32 j11 h31) ∧
    (¬ (i29 : Int) = 92 → Q (.bool false) h31)) ∧
    (¬ (128 : Int) < ((n17 : Nat) : Int) → ((i12 : Int) = 60 → ((i29 : Int) = 71 → ∀ i33 : Int, i33 = IntKind.wrap .i64 (i13 + 1) → ∃ j11, j11 < k9 ∧ I8 i12 i33 j11 h31) ∧
    (¬ (i29 : Int) = 71 → Q (.bool false) h31)) ∧
    (¬ (i12 : Int) = 60 → ∃ i34 : Int, ∃ i35 : Int, ∃ i36 : Int, ldN h31 h25.next 0 3 = some ([(.int .i64 i34), (.int .u64 i35), (.int .u32 i36)] : List Value) ∧
    (Wf Try.prog K 12 [(.pointer p4), (.agg #[(.int .i64 i34), (.int .u64 i35), (.int .u32 i36)])] h31 fun r37 h38 =>
    (∃ l39 : List Value, ∃ i40 : Int, r37 = (.tuple #[(.agg l39.toArray), (.int .i64 i40)]) ∧
    (∀ h41 : AH, h41 = h38.alloc (.cells (List.replicate 128 (.int .u8 0) : List Value) 24 false) →
    (List.length l39 = 128) ∧ ∃ h42 : AH, stN h41 h38.next 0 l39 = some h42 ∧
    (((i29 : Int) = 0 → ((i40 : Int) = 0 → ∃ i43 : Int, ld1 h42 h25.next 0 = some (.int .i64 i43) ∧
    (((0 : Int) ≤ i43) ∧ ((i43 : Int) < 64) ∧
    (((ld1 h42 h3.next (0 + Int.toNat i43 * 1) = some (.bool true) ∧
    (Q (.bool false) h42)) ∨ (ld1 h42 h3.next (0 + Int.toNat i43 * 1) = some (.bool false) ∧
    (Wf Try.prog K 13 [(.slice p16 n17 c18)] h42 fun r44 h45 =>
    (∃ l46 : List Value, r44 = (.agg l46.toArray) ∧
    (∃ l47 : List Value, ldN h45 h38.next 0 128 = some l47 ∧
    (∃ la48 lb49, keyA Try.prog 24 (.agg l47.toArray) = some la48 ∧ keyA Try.prog 24 (.agg l46.toArray) = some lb49 ∧
    (litsEq la48 lb49 = true → vSelfL l47 ((ldN h42 h38.next 0 128 = some l47) ∧
    (vSelfL l47 ((ldN h45 h38.next 0 128 = some l47) ∧
    (∃ i50 : Int, ld1 h45 h25.next 0 = some (.int .i64 i50) ∧
    (((0 : Int) ≤ i50) ∧ ((i50 : Int) < 64) ∧
    (∃ h51 : AH, st1 h45 h3.next (0 + Int.toNat i50 * 1) (.bool true) = some h51 ∧
    (∀ i52 : Int, i52 = IntKind.wrap .i64 (i12 + 1) → ∀ i53 : Int, i53 = IntKind.wrap .i64 (i13 + 1) → ∃ j11, j11 < k9 ∧ I8 i52 i53 j11 h51)))))))) ∧
    (litsEq la48 lb49 = false → vSelfL l47 ((ldN h42 h38.next 0 128 = some l47) ∧
    (vSelfL l47 ((ldN h45 h38.next 0 128 = some l47) ∧
    (Q (.bool false) h45)))))))))))))) ∧
    (¬ (i40 : Int) = 0 → Q (.bool false) h42)) ∧
    (¬ (i29 : Int) = 0 → Q (.bool false) h42))))))))))))))) ∧
    (¬ (i13 : Int) < ((na0 : Nat) : Int) → ((ia1 : Int) < 0 → Q (.bool true) h10) ∧
    (¬ (ia1 : Int) < 0 → ((63 : Int) < ia1 → Q (.bool true) h10) ∧
    (¬ (63 : Int) < ia1 → ∀ h54 : AH, h54 = h10.alloc (.cells ([(.int .u8 120)] : List Value) 5 false) →
    ∃ (p55 : Option Addr) (n56 c57 : Nat) (h58 : AH), aConvert Try.prog h54 29 29 (.slice (some ⟨h10.next, 0, none⟩) 1 1) = some (.slice p55 n56 c57, h58) ∧
    (Wf Try.prog K 20 [(.pointer p4), (.int .i64 ia1), (.slice p55 n56 c57)] h58 fun r59 h60 =>
    (∃ i61 : Int, ∃ i62 : Int, ∃ i63 : Int, ∃ i64 : Int, r59 = (.tuple #[(.agg #[(.int .i64 i61), (.int .u64 i62), (.int .u32 i63)]), (.int .i64 i64)]) ∧
    (∀ h65 : AH, h65 = h60.alloc (.cells ([(.int .i64 0), (.int .u64 0), (.int .u32 0)] : List Value) 33 false) →
    (List.length ([(.int .i64 i61), (.int .u64 i62), (.int .u32 i63)] : List Value) = 3) ∧ ∃ h66 : AH, stN h65 h60.next 0 ([(.int .i64 i61), (.int .u64 i62), (.int .u32 i63)] : List Value) = some h66 ∧
    (((0 : Int) ≤ ia1) ∧ ((ia1 : Int) < 64) ∧
    (((ld1 h66 h3.next (0 + Int.toNat ia1 * 1) = some (.bool true) ∧
    (∃ i67 : Int, ∃ i68 : Int, ∃ i69 : Int, ldN h66 h60.next 0 3 = some ([(.int .i64 i67), (.int .u64 i68), (.int .u32 i69)] : List Value) ∧
    (Wf Try.prog K 12 [(.pointer p4), (.agg #[(.int .i64 i67), (.int .u64 i68), (.int .u32 i69)])] h66 fun r70 h71 =>
    (∃ l72 : List Value, ∃ i73 : Int, r70 = (.tuple #[(.agg l72.toArray), (.int .i64 i73)]) ∧
    (∀ h74 : AH, h74 = h71.alloc (.cells (List.replicate 128 (.int .u8 0) : List Value) 24 false) →
    (List.length l72 = 128) ∧ ∃ h75 : AH, stN h74 h71.next 0 l72 = some h75 ∧
    (((i64 : Int) = 0 → ((i73 : Int) = 0 → ∃ i76 : Int, ld1 h75 h60.next 0 = some (.int .i64 i76) ∧
    (((i76 : Int) = ia1 → ∃ l77 : List Value, ldN h75 h71.next 0 128 = some l77 ∧
    (∃ l78 : List Value, aBuild Try.prog 24 #[(0, (.int .u8 120))] = some (.agg l78.toArray) ∧
    (∃ la79 lb80, keyA Try.prog 24 (.agg l77.toArray) = some la79 ∧ keyA Try.prog 24 (.agg l78.toArray) = some lb80 ∧
    (litsEq la79 lb80 = true → Q (.bool true) h75) ∧
    (litsEq la79 lb80 = false → Q (.bool false) h75)))) ∧
    (¬ (i76 : Int) = ia1 → Q (.bool false) h75))) ∧
    (¬ (i73 : Int) = 0 → Q (.bool false) h75)) ∧
    (¬ (i64 : Int) = 0 → Q (.bool false) h75))))))) ∨ (ld1 h66 h3.next (0 + Int.toNat ia1 * 1) = some (.bool false) ∧
    (((i64 : Int) = 72 → Q (.bool true) h66) ∧
    (¬ (i64 : Int) = 72 → Q (.bool false) h66))))))))))))))))))) ∨ (r0 = (.bool false) ∧
    (Q (.bool false) h1))))) :
    Wf Try.prog K 5 [(.slice pa0 na0 ca0), (.int .i64 ia1)] h Q :=
  vcF_sound (hs := [(9, [(7, .int .i64 0), (27, .int .i64 0)])]) hk (Eq.mpr (by kernel_rfl) H)
end Go.Am
