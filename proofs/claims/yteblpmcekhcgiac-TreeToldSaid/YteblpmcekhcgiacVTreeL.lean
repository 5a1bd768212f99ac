/-
  WEAKEST CONDITIONS of some functions of this program, printed by a program.
-/
import Derived.Test.YteblpmcekhcgiacAmG
import Derived.Test.YteblpmcekhcgiacRows
set_option linter.unusedVariables false
set_option maxRecDepth 100000
namespace Go.Am
open Go.Proofs
theorem vc_aquiferlaw11_TreeTold {K : Xs} (hk : K 5 = none) (pa0 : Option Addr) (na0 ca0 : Nat) (ia1 : Int) (h : AH) (Q : Value → AH → Prop) (H :
    Wf Try.prog K 7 [] h fun r0 h1 =>
    (((r0 = (.bool true) ∧
    (((40 : Int) < ((na0 : Nat) : Int) → Q (.bool true) h1) ∧
    (¬ (40 : Int) < ((na0 : Nat) : Int) → Wf Try.prog K 8 [(.int .i64 200)] h1 fun r2 h3 =>
    (∃ p4 : Option Addr, r2 = (.pointer p4) ∧
    (∀ h5 : AH, h5 = h3.alloc (.cells ([(.int .i64 0), (.int .u64 0), (.int .u32 0)] : List Value) 29 false) →
    (List.length ([(.int .i64 0), (.int .u64 0), (.int .u32 0)] : List Value) = 3) ∧ ∃ h6 : AH, stN h5 h3.next 0 ([(.int .i64 0), (.int .u64 0), (.int .u32 0)] : List Value) = some h6 ∧
    (∀ h7 : AH, h7 = h6.alloc (.cells ([] : List Value) 29 false) →
    ∃ I8 : Option Addr → Nat → Nat → Int → Nat → AH → Prop, (∃ n, I8 (some ⟨h6.next, 0, none⟩) 0 0 0 n h7) ∧
    ∀ (k9 : Nat) (h10 : AH) (p12 : Option Addr) (n13 : Nat) (c14 : Nat) (i15 : Int), I8 p12 n13 c14 i15 k9 h10 →
    ((i15 : Int) < ((na0 : Nat) : Int) → derefP pa0 fun b16 o17 => (((0 : Int) ≤ i15) ∧ ((i15 : Int) < ((na0 : Nat) : Int)) ∧
    (∃ i18 : Int, ∃ i19 : Int, ∃ (p20 : Option Addr) (n21 c22 : Nat), ldN h10 b16 (o17 + Int.toNat i15 * 3) 3 = some ([(.int .i64 i18), (.int .i64 i19), (.slice p20 n21 c22)] : List Value) ∧
    (∀ h23 : AH, h23 = h10.alloc (.cells ([(.int .i64 0), (.int .i64 0), (.slice none 0 0)] : List Value) 32 false) →
    (List.length ([(.int .i64 i18), (.int .i64 i19), (.slice p20 n21 c22)] : List Value) = 3) ∧ ∃ h24 : AH, stN h23 h10.next 0 ([(.int .i64 i18), (.int .i64 i19), (.slice p20 n21 c22)] : List Value) = some h24 ∧
    (∀ h25 : AH, h25 = h24.alloc (.cells ([] : List Value) 29 false) →
    ∃ i26 : Int, ld1 h25 h10.next 0 = some (.int .i64 i26) ∧
    (((i26 : Int) = 1 → ∃ i27 : Int, ∃ i28 : Int, ∃ i29 : Int, ldN h25 h3.next 0 3 = some ([(.int .i64 i27), (.int .u64 i28), (.int .u32 i29)] : List Value) ∧
    (∃ i30 : Int, ld1 h25 h10.next 1 = some (.int .i64 i30) ∧
    (Wf Try.prog K 11 [(.pointer p4), (.agg #[(.int .i64 i27), (.int .u64 i28), (.int .u32 i29)]), (.int .i64 i30)] h25 fun r31 h32 =>
    (∃ i33 : Int, ∃ i34 : Int, ∃ i35 : Int, ∃ (p36 : Option Addr) (n37 c38 : Nat), ∃ i39 : Int, r31 = (.tuple #[(.agg #[(.int .i64 i33), (.int .u64 i34), (.int .u32 i35)]), (.slice p36 n37 c38), (.int .i64 i39)]) ∧
    ((List.length ([(.int .i64 i33), (.int .u64 i34), (.int .u32 i35)] : List Value) = 3) ∧ ∃ h40 : AH, stN h32 h3.next 0 ([(.int .i64 i33), (.int .u64 i34), (.int .u32 i35)] : List Value) = some h40 ∧
    (∃ (p41 : Option Addr) (n42 c43 : Nat) (h44 : AH), aBuiltin Try.prog h40 .append #[33, 33] [(.slice p12 n13 c14), (.slice p36 n37 c38)] = some (.slice p41 n42 c43, h44) ∧
    (∀ i45 : Int, i45 = IntKind.wrap .i64 (i15 + 1) → ∃ j11, j11 < k9 ∧ I8 p41 n42 c43 i45 j11 h44))))))) ∧
    (¬ (i26 : Int) = 1 → ((i26 : Int) = 5 → Wf Try.prog K 14 [(.pointer p4)] h25 fun r46 h47 =>
    (∃ (p48 : Option Addr) (n49 c50 : Nat) (h51 : AH), aBuiltin Try.prog h47 .append #[33, 33] [(.slice p12 n13 c14), (.slice (some ⟨h24.next, 0, none⟩) 0 0)] = some (.slice p48 n49 c50, h51) ∧
    (∀ i52 : Int, i52 = IntKind.wrap .i64 (i15 + 1) → ∃ j11, j11 < k9 ∧ I8 p48 n49 c50 i52 j11 h51))) ∧
    (¬ (i26 : Int) = 5 → ∀ h53 : AH, h53 = h25.alloc (.cells ([] : List Value) 5 false) →
    ∃ (p54 : Option Addr) (n55 c56 : Nat), ld1 h53 h10.next 2 = some (.slice p54 n55 c56) ∧
    (∃ (p57 : Option Addr) (n58 c59 : Nat) (h60 : AH), aBuiltin Try.prog h53 .append #[30, 30] [(.slice (some ⟨h25.next, 0, none⟩) 0 0), (.slice p54 n55 c56)] = some (.slice p57 n58 c59, h60) ∧
    (∃ i61 : Int, ∃ i62 : Int, ∃ i63 : Int, ldN h60 h3.next 0 3 = some ([(.int .i64 i61), (.int .u64 i62), (.int .u32 i63)] : List Value) ∧
    (∃ i64 : Int, ld1 h60 h10.next 1 = some (.int .i64 i64) ∧
    (Wf Try.prog K 9 [(.pointer p4), (.agg #[(.int .i64 i61), (.int .u64 i62), (.int .u32 i63)]), (.int .i64 i64), (.slice p57 n58 c59)] h60 fun r65 h66 =>
    (∃ i67 : Int, ∃ i68 : Int, ∃ i69 : Int, ∃ (p70 : Option Addr) (n71 c72 : Nat), ∃ i73 : Int, r65 = (.tuple #[(.agg #[(.int .i64 i67), (.int .u64 i68), (.int .u32 i69)]), (.slice p70 n71 c72), (.int .i64 i73)]) ∧
    ((List.length ([(.int .i64 i67), (.int .u64 i68), (.int .u32 i69)] : List Value) = 3) ∧ ∃ h74 : AH, stN h66 h3.next 0 ([(.int .i64 i67), (.int .u64 i68), (.int .u32 i69)] : List Value) = some h74 ∧
    ((ldN h53 h3.next 0 3 = some ([(.int .i64 i61), (.int .u64 i62), (.int .u32 i63)] : List Value)) ∧
    ((ldN h60 h3.next 0 3 = some ([(.int .i64 i61), (.int .u64 i62), (.int .u32 i63)] : List Value)) ∧
    ((ld1 h53 h10.next 1 = some (.int .i64 i64)) ∧
    ((ld1 h60 h10.next 1 = some (.int .i64 i64)) ∧
    (∃ (p75 : Option Addr) (n76 c77 : Nat) (h78 : AH), aBuiltin Try.prog h74 .append #[33, 33] [(.slice p12 n13 c14), (.slice p70 n71 c72)] = some (.slice p75 n76 c77, h78) ∧
    (∀ i79 : Int, i79 = IntKind.wrap .i64 (i15 + 1) → ∃ j11, j11 < k9 ∧ I8 p75 n76 c77 i79 j11 h78)))))))))))))))))))) ∧
    (¬ (i15 : Int) < ((na0 : Nat) : Int) → ∃ i80 : Int, ∃ i81 : Int, ∃ i82 : Int, ldN h10 h3.next 0 3 = some ([(.int .i64 i80), (.int .u64 i81), (.int .u32 i82)] : List Value) ∧
    (Wf Try.prog K 15 [(.pointer p4), (.agg #[(.int .i64 i80), (.int .u64 i81), (.int .u32 i82)]), (.int .u64 0)] h10 fun r83 h84 =>
    (∃ (p85 : Option Addr) (n86 c87 : Nat), ∃ i88 : Int, r83 = (.tuple #[(.slice p85 n86 c87), (.int .i64 i88)]) ∧
    (∃ i89 : Int, ∃ i90 : Int, ∃ i91 : Int, ldN h84 h3.next 0 3 = some ([(.int .i64 i89), (.int .u64 i90), (.int .u32 i91)] : List Value) ∧
    (Wf Try.prog K 15 [(.pointer p4), (.agg #[(.int .i64 i89), (.int .u64 i90), (.int .u32 i91)]), (.int .u64 ia1)] h84 fun r92 h93 =>
    (∃ (p94 : Option Addr) (n95 c96 : Nat), ∃ i97 : Int, r92 = (.tuple #[(.slice p94 n95 c96), (.int .i64 i97)]) ∧
    (((i88 : Int) = 0 → ((i97 : Int) = 0 → ∃ l98 : List Value, aBuild Try.prog 50 #[] = some (.agg l98.toArray) ∧
    (∀ h99 : AH, h99 = h93.alloc (.cells (List.replicate 4096 (.bool false) : List Value) 50 false) →
    (List.length l98 = 4096) ∧ ∃ h100 : AH, stN h99 h93.next 0 l98 = some h100 ∧
    (∀ h101 : AH, h101 = h100.alloc (.cells ([] : List Value) 29 false) →
    ∃ (p102 : Option Addr) (n103 c104 : Nat) (h105 : AH), aBuiltin Try.prog h101 .append #[33, 33] [(.slice (some ⟨h100.next, 0, none⟩) 0 0), (.slice p85 n86 c87)] = some (.slice p102 n103 c104, h105) ∧
    (∃ (p106 : Option Addr) (n107 c108 : Nat) (h109 : AH), aBuiltin Try.prog h105 .append #[33, 33] [(.slice p102 n103 c104), (.slice p12 n13 c14)] = some (.slice p106 n107 c108, h109) ∧
    (∃ I110 : Int → Nat → AH → Prop, (∃ n, I110 0 n h109) ∧
    ∀ (k111 : Nat) (h112 : AH) (i114 : Int), I110 i114 k111 h112 →
    ((i114 : Int) < ((n107 : Nat) : Int) → derefP p106 fun b115 o116 => (((0 : Int) ≤ i114) ∧ ((i114 : Int) < ((n107 : Nat) : Int)) ∧
    (∃ i117 : Int, ∃ i118 : Int, ∃ i119 : Int, ldN h112 b115 (o116 + Int.toNat i114 * 3) 3 = some ([(.int .i64 i117), (.int .u64 i118), (.int .u32 i119)] : List Value) ∧
    (∀ h120 : AH, h120 = h112.alloc (.cells ([(.int .i64 0), (.int .u64 0), (.int .u32 0)] : List Value) 29 false) →
    (List.length ([(.int .i64 i117), (.int .u64 i118), (.int .u32 i119)] : List Value) = 3) ∧ ∃ h121 : AH, stN h120 h112.next 0 ([(.int .i64 i117), (.int .u64 i118), (.int .u32 i119)] : List Value) = some h121 ∧
    (∃ i122 : Int, ld1 h121 h112.next 0 = some (.int .i64 i122) ∧
    (((i122 : Int) < 4 → Q (.bool false) h121) ∧
    (¬ (i122 : Int) < 4 → ∃ i123 : Int, ld1 h121 h112.next 0 = some (.int .i64 i123) ∧
    (((199 : Int) < i123 → Q (.bool false) h121) ∧
    (¬ (199 : Int) < i123 → ∃ i124 : Int, ld1 h121 h112.next 0 = some (.int .i64 i124) ∧
    (((0 : Int) ≤ i124) ∧ ((i124 : Int) < 4096) ∧
    (((ld1 h121 h93.next (0 + Int.toNat i124 * 1) = some (.bool true) ∧
    (Q (.bool false) h121)) ∨ (ld1 h121 h93.next (0 + Int.toNat i124 * 1) = some (.bool false) ∧
    (∃ i125 : Int, ld1 h121 h112.next 0 = some (.int .i64 i125) ∧
    (((0 : Int) ≤ i125) ∧ ((i125 : Int) < 4096) ∧
    (∃ h126 : AH, st1 h121 h93.next (0 + Int.toNat i125 * 1) (.bool true) = some h126 ∧
    (∀ i127 : Int, i127 = IntKind.wrap .i64 (i114 + 1) → ∃ j113, j113 < k111 ∧ I110 i127 j113 h126))))))))))))))))) ∧
    (¬ (i114 : Int) < ((n107 : Nat) : Int) → ∀ h128 : AH, h128 = h112.alloc (.cells ([] : List Value) 29 false) →
    ∃ I129 : Option Addr → Nat → Nat → Int → Nat → AH → Prop, (∃ n, I129 (some ⟨h112.next, 0, none⟩) 0 0 0 n h128) ∧
    ∀ (k130 : Nat) (h131 : AH) (p133 : Option Addr) (n134 : Nat) (c135 : Nat) (i136 : Int), I129 p133 n134 c135 i136 k130 h131 →
    ((i136 : Int) < ((n86 : Nat) : Int) → derefP p85 fun b137 o138 => (((0 : Int) ≤ i136) ∧ ((i136 : Int) < ((n86 : Nat) : Int)) ∧
    (∃ i139 : Int, ∃ i140 : Int, ∃ i141 : Int, ldN h131 b137 (o138 + Int.toNat i136 * 3) 3 = some ([(.int .i64 i139), (.int .u64 i140), (.int .u32 i141)] : List Value) ∧
    (∀ h142 : AH, h142 = h131.alloc (.cells ([(.int .i64 0), (.int .u64 0), (.int .u32 0)] : List Value) 29 false) →
    (List.length ([(.int .i64 i139), (.int .u64 i140), (.int .u32 i141)] : List Value) = 3) ∧ ∃ h143 : AH, stN h142 h131.next 0 ([(.int .i64 i139), (.int .u64 i140), (.int .u32 i141)] : List Value) = some h143 ∧
    (∃ i144 : Int, ld1 h143 h131.next 1 = some (.int .u64 i144) ∧
    (((ia1 : Int) < i144 → ∃ i145 : Int, ∃ i146 : Int, ∃ i147 : Int, ldN h143 h131.next 0 3 = some ([(.int .i64 i145), (.int .u64 i146), (.int .u32 i147)] : List Value) ∧
    (∀ h148 : AH, h148 = h143.alloc (.cells ([(.int .i64 i145), (.int .u64 i146), (.int .u32 i147)] : List Value) 29 false) →
    ∃ (p149 : Option Addr) (n150 c151 : Nat) (h152 : AH), aBuiltin Try.prog h148 .append #[33, 33] [(.slice p133 n134 c135), (.slice (some ⟨h143.next, 0, none⟩) 1 1)] = some (.slice p149 n150 c151, h152) ∧
    (∀ i153 : Int, i153 = IntKind.wrap .i64 (i136 + 1) → ∃ j132, j132 < k130 ∧ I129 p149 n150 c151 i153 j132 h152))) ∧
    (¬ (ia1 : Int) < i144 → ∀ i154 : Int, i154 = IntKind.wrap .i64 (i136 + 1) → ∃ j132, j132 < k130 ∧ I129 p133 n134 c135 i154 j132 h143))))))) ∧
    (¬ (i136 : Int) < ((n86 : Nat) : Int) → Wf Try.prog K 12 [(.pointer p4)] h131 fun r155 h156 =>
    (∃ p157 : Option Addr, r155 = (.pointer p157) ∧
    (Wf Try.prog K 19 [(.pointer p157)] h156 fun r158 h159 =>
    (∃ (p160 : Option Addr) (n161 c162 : Nat), r158 = (.slice p160 n161 c162) ∧
    (∃ l163 : List Value, ldN h159 h93.next 0 4096 = some l163 ∧
    (Wf Try.prog K 20 [(.agg l163.toArray)] h159 fun r164 h165 =>
    (∃ (p166 : Option Addr) (n167 c168 : Nat), r164 = (.slice p166 n167 c168) ∧
    (Wf Try.prog K 18 [(.slice p160 n161 c162), (.slice p166 n167 c168)] h165 fun r169 h170 =>
    (((r169 = (.bool true) ∧
    (Wf Try.prog K 17 [(.slice p94 n95 c96), (.slice p133 n134 c135)] h170 fun r171 h172 =>
    (((r171 = (.bool true) ∧
    (vSelfL l163 ((ldN h131 h93.next 0 4096 = some l163) ∧
    (vSelfL l163 ((ldN h156 h93.next 0 4096 = some l163) ∧
    (vSelfL l163 ((ldN h156 h93.next 0 4096 = some l163) ∧
    (vSelfL l163 ((ldN h159 h93.next 0 4096 = some l163) ∧
    (Q (.bool true) h172)))))))))) ∨ (r171 = (.bool false) ∧
    (vSelfL l163 ((ldN h131 h93.next 0 4096 = some l163) ∧
    (vSelfL l163 ((ldN h156 h93.next 0 4096 = some l163) ∧
    (vSelfL l163 ((ldN h156 h93.next 0 4096 = some l163) ∧
    (vSelfL l163 ((ldN h159 h93.next 0 4096 = some l163) ∧
    (Q (.bool false) h172)))))))))))))) ∨ (r169 = (.bool false) ∧
    (vSelfL l163 ((ldN h131 h93.next 0 4096 = some l163) ∧
    (vSelfL l163 ((ldN h156 h93.next 0 4096 = some l163) ∧
    (vSelfL l163 ((ldN h156 h93.next 0 4096 = some l163) ∧
    (vSelfL l163 ((ldN h159 h93.next 0 4096 = some l163) ∧
    (Q (.bool false) h170)))))))))))))))))))))))))) ∧
    (¬ (i97 : Int) = 0 → Q (.bool false) h93)) ∧
    (¬ (i88 : Int) = 0 → Q (.bool false) h93)))))))))))))) ∨ (r0 = (.bool false) ∧
    (Q (.bool false) h1))))) :
    Wf Try.prog K 5 [(.slice pa0 na0 ca0), (.int .u64 ia1)] h Q :=
  vcF_sound (hs := [(9, [(7, .slice none 0 0), (31, .int .i64 0)]), (26, [(96, .int .i64 0)]), (34, [(18, .slice none 0 0), (121, .int .i64 0)])]) hk (Eq.mpr (by kernel_rfl) H)
theorem vc_aquiferlaw11_TreeTrims {K : Xs} (hk : K 3 = none) (pa0 : Option Addr) (na0 ca0 : Nat) (ia1 : Int) (h : AH) (Q : Value → AH → Prop) (H :
    Wf Try.prog K 7 [] h fun r0 h1 =>
    (((r0 = (.bool true) ∧
    (((25 : Int) < ((na0 : Nat) : Int) → Q (.bool true) h1) ∧
    (¬ (25 : Int) < ((na0 : Nat) : Int) → ((ia1 : Int) < 0 → Q (.bool true) h1) ∧
    (¬ (ia1 : Int) < 0 → Wf Try.prog K 8 [(.int .i64 400)] h1 fun r2 h3 =>
    (∃ p4 : Option Addr, r2 = (.pointer p4) ∧
    (∀ h5 : AH, h5 = h3.alloc (.cells ([(.int .i64 0), (.int .u64 0), (.int .u32 0)] : List Value) 29 false) →
    (List.length ([(.int .i64 0), (.int .u64 0), (.int .u32 0)] : List Value) = 3) ∧ ∃ h6 : AH, stN h5 h3.next 0 ([(.int .i64 0), (.int .u64 0), (.int .u32 0)] : List Value) = some h6 ∧
    (∃ I7 : Int → Int → Nat → AH → Prop, (∃ n, I7 0 0 n h6) ∧
    ∀ (k8 : Nat) (h9 : AH) (i11 : Int) (i12 : Int), I7 i11 i12 k8 h9 →
    ((i12 : Int) < ((na0 : Nat) : Int) → derefP pa0 fun b13 o14 => (((0 : Int) ≤ i12) ∧ ((i12 : Int) < ((na0 : Nat) : Int)) ∧
    (∃ i15 : Int, ∃ i16 : Int, ∃ (p17 : Option Addr) (n18 c19 : Nat), ldN h9 b13 (o14 + Int.toNat i12 * 3) 3 = some ([(.int .i64 i15), (.int .i64 i16), (.slice p17 n18 c19)] : List Value) ∧
    (∀ h20 : AH, h20 = h9.alloc (.cells ([(.int .i64 0), (.int .i64 0), (.slice none 0 0)] : List Value) 32 false) →
    (List.length ([(.int .i64 i15), (.int .i64 i16), (.slice p17 n18 c19)] : List Value) = 3) ∧ ∃ h21 : AH, stN h20 h9.next 0 ([(.int .i64 i15), (.int .i64 i16), (.slice p17 n18 c19)] : List Value) = some h21 ∧
    (∀ h22 : AH, h22 = h21.alloc (.cells ([] : List Value) 5 false) →
    ∃ (p23 : Option Addr) (n24 c25 : Nat), ld1 h22 h9.next 2 = some (.slice p23 n24 c25) ∧
    (∃ (p26 : Option Addr) (n27 c28 : Nat) (h29 : AH), aBuiltin Try.prog h22 .append #[30, 30] [(.slice (some ⟨h21.next, 0, none⟩) 0 0), (.slice p23 n24 c25)] = some (.slice p26 n27 c28, h29) ∧
    (∃ i30 : Int, ∃ i31 : Int, ∃ i32 : Int, ldN h29 h3.next 0 3 = some ([(.int .i64 i30), (.int .u64 i31), (.int .u32 i32)] : List Value) ∧
    (∃ i33 : Int, ld1 h29 h9.next 1 = some (.int .i64 i33) ∧
    (Wf Try.prog K 9 [(.pointer p4), (.agg #[(.int .i64 i30), (.int .u64 i31), (.int .u32 i32)]), (.int .i64 i33), (.slice p26 n27 c28)] h29 fun r34 h35 =>
    (∃ i36 : Int, ∃ i37 : Int, ∃ i38 : Int, ∃ (p39 : Option Addr) (n40 c41 : Nat), ∃ i42 : Int, r34 = (.tuple #[(.agg #[(.int .i64 i36), (.int .u64 i37), (.int .u32 i38)]), (.slice p39 n40 c41), (.int .i64 i42)]) ∧
    (∀ h43 : AH, h43 = h35.alloc (.cells ([(.int .i64 0), (.int .u64 0), (.int .u32 0)] : List Value) 29 false) →
    (List.length ([(.int .i64 i36), (.int .u64 i37), (.int .u32 i38)] : List Value) = 3) ∧ ∃ h44 : AH, stN h43 h35.next 0 ([(.int .i64 i36), (.int .u64 i37), (.int .u32 i38)] : List Value) = some h44 ∧
    ((ldN h22 h3.next 0 3 = some ([(.int .i64 i30), (.int .u64 i31), (.int .u32 i32)] : List Value)) ∧
    ((ldN h29 h3.next 0 3 = some ([(.int .i64 i30), (.int .u64 i31), (.int .u32 i32)] : List Value)) ∧
    ((ld1 h22 h9.next 1 = some (.int .i64 i33)) ∧
    ((ld1 h29 h9.next 1 = some (.int .i64 i33)) ∧
    (∃ i45 : Int, ∃ i46 : Int, ∃ i47 : Int, ldN h44 h35.next 0 3 = some ([(.int .i64 i45), (.int .u64 i46), (.int .u32 i47)] : List Value) ∧
    ((List.length ([(.int .i64 i45), (.int .u64 i46), (.int .u32 i47)] : List Value) = 3) ∧ ∃ h48 : AH, stN h44 h3.next 0 ([(.int .i64 i45), (.int .u64 i46), (.int .u32 i47)] : List Value) = some h48 ∧
    (∀ i49 : Int, i49 = IntKind.wrap .i64 (i11 + ((n40 : Nat) : Int)) → ∀ i50 : Int, i50 = IntKind.wrap .i64 (i12 + 1) → ∃ j10, j10 < k8 ∧ I7 i49 i50 j10 h48)))))))))))))))))) ∧
    (¬ (i12 : Int) < ((na0 : Nat) : Int) → ∃ i51 : Int, ∃ i52 : Int, ∃ i53 : Int, ldN h9 h3.next 0 3 = some ([(.int .i64 i51), (.int .u64 i52), (.int .u32 i53)] : List Value) ∧
    (Wf Try.prog K 10 [(.pointer p4), (.agg #[(.int .i64 i51), (.int .u64 i52), (.int .u32 i53)])] h9 fun r54 h55 =>
    (∃ (p56 : Option Addr) (n57 c58 : Nat), ∃ i59 : Int, r54 = (.tuple #[(.slice p56 n57 c58), (.int .i64 i59)]) ∧
    (((i59 : Int) = 0 → ∃ I60 : Int → Int → Nat → AH → Prop, (∃ n, I60 i11 0 n h55) ∧
    ∀ (k61 : Nat) (h62 : AH) (i64 : Int) (i65 : Int), I60 i64 i65 k61 h62 →
    ((i65 : Int) < ((n57 : Nat) : Int) → ∃ i66 : Int, ∃ i67 : Int, ∃ i68 : Int, ldN h62 h3.next 0 3 = some ([(.int .i64 i66), (.int .u64 i67), (.int .u32 i68)] : List Value) ∧
    ((1000 ≠ (0 : Int)) ∧ (∀ i69 : Int, i69 = Int.tmod ia1 1000 → ∀ i70 : Int, i70 = IntKind.wrap .i64 (i69 + i65) → (((n57 : Nat) : Int) ≠ (0 : Int)) ∧ (∀ i71 : Int, i71 = Int.tmod i70 ((n57 : Nat) : Int) → derefP p56 fun b72 o73 => (((0 : Int) ≤ i71) ∧ ((i71 : Int) < ((n57 : Nat) : Int)) ∧
    (∃ i74 : Int, ld1 h62 b72 (o73 + Int.toNat i71 * 1) = some (.int .i64 i74) ∧
    (Wf Try.prog K 11 [(.pointer p4), (.agg #[(.int .i64 i66), (.int .u64 i67), (.int .u32 i68)]), (.int .i64 i74)] h62 fun r75 h76 =>
    (∃ i77 : Int, ∃ i78 : Int, ∃ i79 : Int, ∃ (p80 : Option Addr) (n81 c82 : Nat), ∃ i83 : Int, r75 = (.tuple #[(.agg #[(.int .i64 i77), (.int .u64 i78), (.int .u32 i79)]), (.slice p80 n81 c82), (.int .i64 i83)]) ∧
    (∀ h84 : AH, h84 = h76.alloc (.cells ([(.int .i64 0), (.int .u64 0), (.int .u32 0)] : List Value) 29 false) →
    (List.length ([(.int .i64 i77), (.int .u64 i78), (.int .u32 i79)] : List Value) = 3) ∧ ∃ h85 : AH, stN h84 h76.next 0 ([(.int .i64 i77), (.int .u64 i78), (.int .u32 i79)] : List Value) = some h85 ∧
    (((i83 : Int) = 0 → ∃ i86 : Int, ∃ i87 : Int, ∃ i88 : Int, ldN h85 h76.next 0 3 = some ([(.int .i64 i86), (.int .u64 i87), (.int .u32 i88)] : List Value) ∧
    ((List.length ([(.int .i64 i86), (.int .u64 i87), (.int .u32 i88)] : List Value) = 3) ∧ ∃ h89 : AH, stN h85 h3.next 0 ([(.int .i64 i86), (.int .u64 i87), (.int .u32 i88)] : List Value) = some h89 ∧
    (∀ i90 : Int, i90 = IntKind.wrap .i64 (i64 + ((n81 : Nat) : Int)) → ∀ i91 : Int, i91 = IntKind.wrap .i64 (i65 + 1) → ∃ j63, j63 < k61 ∧ I60 i90 i91 j63 h89))) ∧
    (¬ (i83 : Int) = 0 → Q (.bool false) h85))))))))))) ∧
    (¬ (i65 : Int) < ((n57 : Nat) : Int) → ∃ i92 : Int, ∃ i93 : Int, ∃ i94 : Int, ldN h62 h3.next 0 3 = some ([(.int .i64 i92), (.int .u64 i93), (.int .u32 i94)] : List Value) ∧
    (Wf Try.prog K 10 [(.pointer p4), (.agg #[(.int .i64 i92), (.int .u64 i93), (.int .u32 i94)])] h62 fun r95 h96 =>
    (∃ (p97 : Option Addr) (n98 c99 : Nat), ∃ i100 : Int, r95 = (.tuple #[(.slice p97 n98 c99), (.int .i64 i100)]) ∧
    (((i100 : Int) = 0 → ((((n98 : Nat) : Int) : Int) = 0 → ∃ i101 : Int, ∃ i102 : Int, ∃ i103 : Int, ldN h96 h3.next 0 3 = some ([(.int .i64 i101), (.int .u64 i102), (.int .u32 i103)] : List Value) ∧
    (∃ la104 lb105, keyA Try.prog 29 (.agg #[(.int .i64 i101), (.int .u64 i102), (.int .u32 i103)]) = some la104 ∧ keyA Try.prog 29 (.agg #[(.int .i64 0), (.int .u64 0), (.int .u32 0)]) = some lb105 ∧
    (litsEq la104 lb105 = true → Wf Try.prog K 12 [(.pointer p4)] h96 fun r106 h107 =>
    (∃ p108 : Option Addr, r106 = (.pointer p108) ∧
    (Wf Try.prog K 13 [(.pointer p108)] h107 fun r109 h110 =>
    (∃ i111 : Int, r109 = (.int .i64 i111) ∧
    (∀ i112 : Int, i112 = IntKind.wrap .i64 (396 - i111) → ((i64 : Int) = i112 → Q (.bool true) h110) ∧
    (¬ (i64 : Int) = i112 → Q (.bool false) h110)))))) ∧
    (litsEq la104 lb105 = false → Q (.bool false) h96))) ∧
    (¬ (((n98 : Nat) : Int) : Int) = 0 → Q (.bool false) h96)) ∧
    (¬ (i100 : Int) = 0 → Q (.bool false) h96)))))) ∧
    (¬ (i59 : Int) = 0 → Q (.bool false) h55)))))))))))) ∨ (r0 = (.bool false) ∧
    (Q (.bool false) h1))))) :
    Wf Try.prog K 3 [(.slice pa0 na0 ca0), (.int .i64 ia1)] h Q :=
  vcF_sound (hs := [(9, [(7, .int .i64 0), (34, .int .i64 0)]), (19, [(7, .int .i64 0), (67, .int .i64 0)])]) hk (Eq.mpr (by kernel_rfl) H)
theorem vc_aquiferlaw11_TreeSince {K : Xs} (hk : K 4 = none) (pa0 : Option Addr) (na0 ca0 : Nat) (ia1 : Int) (ia2 : Int) (h : AH) (Q : Value → AH → Prop) (H :
    Wf Try.prog K 7 [] h fun r0 h1 =>
    (((r0 = (.bool true) ∧
    (((30 : Int) < ((na0 : Nat) : Int) → Q (.bool true) h1) ∧
    (¬ (30 : Int) < ((na0 : Nat) : Int) → Wf Try.prog K 8 [(.int .i64 400)] h1 fun r2 h3 =>
    (∃ p4 : Option Addr, r2 = (.pointer p4) ∧
    (∀ h5 : AH, h5 = h3.alloc (.cells ([(.int .i64 0), (.int .u64 0), (.int .u32 0)] : List Value) 29 false) →
    (List.length ([(.int .i64 0), (.int .u64 0), (.int .u32 0)] : List Value) = 3) ∧ ∃ h6 : AH, stN h5 h3.next 0 ([(.int .i64 0), (.int .u64 0), (.int .u32 0)] : List Value) = some h6 ∧
    (∃ I7 : Int → Nat → AH → Prop, (∃ n, I7 0 n h6) ∧
    ∀ (k8 : Nat) (h9 : AH) (i11 : Int), I7 i11 k8 h9 →
    ((i11 : Int) < ((na0 : Nat) : Int) → derefP pa0 fun b12 o13 => (((0 : Int) ≤ i11) ∧ ((i11 : Int) < ((na0 : Nat) : Int)) ∧
    (∃ i14 : Int, ∃ i15 : Int, ∃ (p16 : Option Addr) (n17 c18 : Nat), ldN h9 b12 (o13 + Int.toNat i11 * 3) 3 = some ([(.int .i64 i14), (.int .i64 i15), (.slice p16 n17 c18)] : List Value) ∧
    (∀ h19 : AH, h19 = h9.alloc (.cells ([(.int .i64 0), (.int .i64 0), (.slice none 0 0)] : List Value) 32 false) →
    (List.length ([(.int .i64 i14), (.int .i64 i15), (.slice p16 n17 c18)] : List Value) = 3) ∧ ∃ h20 : AH, stN h19 h9.next 0 ([(.int .i64 i14), (.int .i64 i15), (.slice p16 n17 c18)] : List Value) = some h20 ∧
    (∃ i21 : Int, ld1 h20 h9.next 0 = some (.int .i64 i21) ∧
    (((i21 : Int) = 5 → Wf Try.prog K 14 [(.pointer p4)] h20 fun r22 h23 =>
    (∀ i24 : Int, i24 = IntKind.wrap .i64 (i11 + 1) → ∃ j10, j10 < k8 ∧ I7 i24 j10 h23)) ∧
    (¬ (i21 : Int) = 5 → ∀ h25 : AH, h25 = h20.alloc (.cells ([] : List Value) 5 false) →
    ∃ (p26 : Option Addr) (n27 c28 : Nat), ld1 h25 h9.next 2 = some (.slice p26 n27 c28) ∧
    (∃ (p29 : Option Addr) (n30 c31 : Nat) (h32 : AH), aBuiltin Try.prog h25 .append #[30, 30] [(.slice (some ⟨h20.next, 0, none⟩) 0 0), (.slice p26 n27 c28)] = some (.slice p29 n30 c31, h32) ∧
    (∃ i33 : Int, ∃ i34 : Int, ∃ i35 : Int, ldN h32 h3.next 0 3 = some ([(.int .i64 i33), (.int .u64 i34), (.int .u32 i35)] : List Value) ∧
    (∃ i36 : Int, ld1 h32 h9.next 1 = some (.int .i64 i36) ∧
    (Wf Try.prog K 9 [(.pointer p4), (.agg #[(.int .i64 i33), (.int .u64 i34), (.int .u32 i35)]), (.int .i64 i36), (.slice p29 n30 c31)] h32 fun r37 h38 =>
    (∃ i39 : Int, ∃ i40 : Int, ∃ i41 : Int, ∃ (p42 : Option Addr) (n43 c44 : Nat), ∃ i45 : Int, r37 = (.tuple #[(.agg #[(.int .i64 i39), (.int .u64 i40), (.int .u32 i41)]), (.slice p42 n43 c44), (.int .i64 i45)]) ∧
    (∀ h46 : AH, h46 = h38.alloc (.cells ([(.int .i64 0), (.int .u64 0), (.int .u32 0)] : List Value) 29 false) →
    (List.length ([(.int .i64 i39), (.int .u64 i40), (.int .u32 i41)] : List Value) = 3) ∧ ∃ h47 : AH, stN h46 h38.next 0 ([(.int .i64 i39), (.int .u64 i40), (.int .u32 i41)] : List Value) = some h47 ∧
    ((ldN h25 h3.next 0 3 = some ([(.int .i64 i33), (.int .u64 i34), (.int .u32 i35)] : List Value)) ∧
    ((ldN h32 h3.next 0 3 = some ([(.int .i64 i33), (.int .u64 i34), (.int .u32 i35)] : List Value)) ∧
    ((ld1 h25 h9.next 1 = some (.int .i64 i36)) ∧
    ((ld1 h32 h9.next 1 = some (.int .i64 i36)) ∧
    (∃ i48 : Int, ∃ i49 : Int, ∃ i50 : Int, ldN h47 h38.next 0 3 = some ([(.int .i64 i48), (.int .u64 i49), (.int .u32 i50)] : List Value) ∧
    ((List.length ([(.int .i64 i48), (.int .u64 i49), (.int .u32 i50)] : List Value) = 3) ∧ ∃ h51 : AH, stN h47 h3.next 0 ([(.int .i64 i48), (.int .u64 i49), (.int .u32 i50)] : List Value) = some h51 ∧
    (∀ i52 : Int, i52 = IntKind.wrap .i64 (i11 + 1) → ∃ j10, j10 < k8 ∧ I7 i52 j10 h51)))))))))))))))))))) ∧
    (¬ (i11 : Int) < ((na0 : Nat) : Int) → ∃ i53 : Int, ∃ i54 : Int, ∃ i55 : Int, ldN h9 h3.next 0 3 = some ([(.int .i64 i53), (.int .u64 i54), (.int .u32 i55)] : List Value) ∧
    (∀ i56 : Int, i56 = (if ia2 < (ia1 : Int) then ia2 else (ia1 : Int)) → Wf Try.prog K 15 [(.pointer p4), (.agg #[(.int .i64 i53), (.int .u64 i54), (.int .u32 i55)]), (.int .u64 i56)] h9 fun r57 h58 =>
    (∃ (p59 : Option Addr) (n60 c61 : Nat), ∃ i62 : Int, r57 = (.tuple #[(.slice p59 n60 c61), (.int .i64 i62)]) ∧
    (∃ i63 : Int, ∃ i64 : Int, ∃ i65 : Int, ldN h58 h3.next 0 3 = some ([(.int .i64 i63), (.int .u64 i64), (.int .u32 i65)] : List Value) ∧
    (∀ i66 : Int, i66 = (if ia2 > (ia1 : Int) then ia2 else (ia1 : Int)) → Wf Try.prog K 15 [(.pointer p4), (.agg #[(.int .i64 i63), (.int .u64 i64), (.int .u32 i65)]), (.int .u64 i66)] h58 fun r67 h68 =>
    (∃ (p69 : Option Addr) (n70 c71 : Nat), ∃ i72 : Int, r67 = (.tuple #[(.slice p69 n70 c71), (.int .i64 i72)]) ∧
    (Wf Try.prog K 16 [(.pointer p4)] h68 fun r73 h74 =>
    (∃ i75 : Int, r73 = (.int .u64 i75) ∧
    (∃ i76 : Int, ∃ i77 : Int, ∃ i78 : Int, ldN h74 h3.next 0 3 = some ([(.int .i64 i76), (.int .u64 i77), (.int .u32 i78)] : List Value) ∧
    (Wf Try.prog K 15 [(.pointer p4), (.agg #[(.int .i64 i76), (.int .u64 i77), (.int .u32 i78)]), (.int .u64 i75)] h74 fun r79 h80 =>
    (∃ (p81 : Option Addr) (n82 c83 : Nat), ∃ i84 : Int, r79 = (.tuple #[(.slice p81 n82 c83), (.int .i64 i84)]) ∧
    ((ldN h68 h3.next 0 3 = some ([(.int .i64 i76), (.int .u64 i77), (.int .u32 i78)] : List Value)) ∧
    ((ldN h74 h3.next 0 3 = some ([(.int .i64 i76), (.int .u64 i77), (.int .u32 i78)] : List Value)) ∧
    (((i62 : Int) = 0 → ((i72 : Int) = 0 → ((i84 : Int) = 0 → ((0 : Int) < ((n82 : Nat) : Int) → Q (.bool false) h80) ∧
    (¬ (0 : Int) < ((n82 : Nat) : Int) → ∀ h85 : AH, h85 = h80.alloc (.cells ([] : List Value) 29 false) →
    ∃ I86 : Option Addr → Nat → Nat → Int → Nat → AH → Prop, (∃ n, I86 (some ⟨h80.next, 0, none⟩) 0 0 0 n h85) ∧
    ∀ (k87 : Nat) (h88 : AH) (p90 : Option Addr) (n91 : Nat) (c92 : Nat) (i93 : Int), I86 p90 n91 c92 i93 k87 h88 →
    ((i93 : Int) < ((n60 : Nat) : Int) → derefP p59 fun b94 o95 => (((0 : Int) ≤ i93) ∧ ((i93 : Int) < ((n60 : Nat) : Int)) ∧
    (∃ i96 : Int, ∃ i97 : Int, ∃ i98 : Int, ldN h88 b94 (o95 + Int.toNat i93 * 3) 3 = some ([(.int .i64 i96), (.int .u64 i97), (.int .u32 i98)] : List Value) ∧
    (∀ h99 : AH, h99 = h88.alloc (.cells ([(.int .i64 0), (.int .u64 0), (.int .u32 0)] : List Value) 29 false) →
    (List.length ([(.int .i64 i96), (.int .u64 i97), (.int .u32 i98)] : List Value) = 3) ∧ ∃ h100 : AH, stN h99 h88.next 0 ([(.int .i64 i96), (.int .u64 i97), (.int .u32 i98)] : List Value) = some h100 ∧
    (∃ i101 : Int, ld1 h100 h88.next 1 = some (.int .u64 i101) ∧
    (∀ i102 : Int, i102 = (if ia2 > (ia1 : Int) then ia2 else (ia1 : Int)) → ((i102 : Int) < i101 → ∃ i103 : Int, ∃ i104 : Int, ∃ i105 : Int, ldN h100 h88.next 0 3 = some ([(.int .i64 i103), (.int .u64 i104), (.int .u32 i105)] : List Value) ∧
    (∀ h106 : AH, h106 = h100.alloc (.cells ([(.int .i64 i103), (.int .u64 i104), (.int .u32 i105)] : List Value) 29 false) →
    ∃ (p107 : Option Addr) (n108 c109 : Nat) (h110 : AH), aBuiltin Try.prog h106 .append #[33, 33] [(.slice p90 n91 c92), (.slice (some ⟨h100.next, 0, none⟩) 1 1)] = some (.slice p107 n108 c109, h110) ∧
    (∀ i111 : Int, i111 = IntKind.wrap .i64 (i93 + 1) → ∃ j89, j89 < k87 ∧ I86 p107 n108 c109 i111 j89 h110))) ∧
    (¬ (i102 : Int) < i101 → ∀ i112 : Int, i112 = IntKind.wrap .i64 (i93 + 1) → ∃ j89, j89 < k87 ∧ I86 p90 n91 c92 i112 j89 h100))))))) ∧
    (¬ (i93 : Int) < ((n60 : Nat) : Int) → Wf Try.prog K 17 [(.slice p69 n70 c71), (.slice p90 n91 c92)] h88 fun r113 h114 =>
    (((r113 = (.bool true) ∧
    (Q (.bool true) h114)) ∨ (r113 = (.bool false) ∧
    (Q (.bool false) h114))))))) ∧
    (¬ (i84 : Int) = 0 → Q (.bool false) h80)) ∧
    (¬ (i72 : Int) = 0 → Q (.bool false) h80)) ∧
    (¬ (i62 : Int) = 0 → Q (.bool false) h80))))))))))))))))))))) ∨ (r0 = (.bool false) ∧
    (Q (.bool false) h1))))) :
    Wf Try.prog K 4 [(.slice pa0 na0 ca0), (.int .u64 ia1), (.int .u64 ia2)] h Q :=
  vcF_sound (hs := [(8, [(32, .int .i64 0)]), (22, [(20, .slice none 0 0), (100, .int .i64 0)])]) hk (Eq.mpr (by kernel_rfl) H)
end Go.Am
