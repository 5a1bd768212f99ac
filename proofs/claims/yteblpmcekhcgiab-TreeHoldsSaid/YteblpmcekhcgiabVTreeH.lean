/-
  WEAKEST CONDITIONS of some functions of this program, printed by a program.
-/
import Derived.Test.YteblpmcekhcgiabAmG
import Derived.Test.YteblpmcekhcgiabRows
set_option linter.unusedVariables false
set_option maxRecDepth 100000
namespace Go.Am
open Go.Proofs
theorem vc_aquiferlaw11_TreeHolds {K : Xs} (hk : K 6 = none) (pa0 : Option Addr) (na0 ca0 : Nat) (ia1 : Int) (h : AH) (Q : Value → AH → Prop) (H :
    Wf Try.prog K 29 [] h fun r0 h1 =>
    (((r0 = (.bool true) ∧
    (((40 : Int) < ((na0 : Nat) : Int) → Q (.bool true) h1) ∧
    (¬ (40 : Int) < ((na0 : Nat) : Int) → ((ia1 : Int) < 0 → Q (.bool true) h1) ∧
    (¬ (ia1 : Int) < 0 → ((63 : Int) < ia1 → Q (.bool true) h1) ∧
    (¬ (63 : Int) < ia1 → Wf Try.prog K 30 [(.int .i64 200)] h1 fun r2 h3 =>
    (∃ p4 : Option Addr, r2 = (.pointer p4) ∧
    (∀ h5 : AH, h5 = h3.alloc (.cells ([(.int .i64 0), (.int .u64 0), (.int .u32 0)] : List Value) 28 false) →
    (List.length ([(.int .i64 0), (.int .u64 0), (.int .u32 0)] : List Value) = 3) ∧ ∃ h6 : AH, stN h5 h3.next 0 ([(.int .i64 0), (.int .u64 0), (.int .u32 0)] : List Value) = some h6 ∧
    (∃ l7 : List Value, aBuild Try.prog 58 #[] = some (.agg l7.toArray) ∧
    (∀ h8 : AH, h8 = h6.alloc (.cells (List.replicate 8192 (.int .u8 0) : List Value) 58 false) →
    (List.length l7 = 8192) ∧ ∃ h9 : AH, stN h8 h6.next 0 l7 = some h9 ∧
    (∃ l10 : List Value, aBuild Try.prog 59 #[] = some (.agg l10.toArray) ∧
    (∀ h11 : AH, h11 = h9.alloc (.cells (List.replicate 64 (.bool false) : List Value) 59 false) →
    (List.length l10 = 64) ∧ ∃ h12 : AH, stN h11 h9.next 0 l10 = some h12 ∧
    (∀ h13 : AH, h13 = h12.alloc (.cells ([] : List Value) 28 false) →
    ∃ (p14 : Option Addr) (n15 c16 : Nat) (h17 : AH), aBuildSlice Try.prog h13 60 0 #[] = some (.slice p14 n15 c16, h17) ∧
    (∃ I18 : Option Addr → Nat → Nat → Option Addr → Nat → Nat → Int → Nat → AH → Prop, (∃ n, I18 (some ⟨h12.next, 0, none⟩) 0 0 p14 n15 c16 0 n h17) ∧
    ∀ (k19 : Nat) (h20 : AH) (p22 : Option Addr) (n23 : Nat) (c24 : Nat) (p25 : Option Addr) (n26 : Nat) (c27 : Nat) (i28 : Int), I18 p22 n23 c24 p25 n26 c27 i28 k19 h20 →
    ((i28 : Int) < ((na0 : Nat) : Int) → derefP pa0 fun b29 o30 => (((0 : Int) ≤ i28) ∧ ((i28 : Int) < ((na0 : Nat) : Int)) ∧
    (∃ i31 : Int, ∃ i32 : Int, ∃ (p33 : Option Addr) (n34 c35 : Nat), ldN h20 b29 (o30 + Int.toNat i28 * 3) 3 = some ([(.int .i64 i31), (.int .i64 i32), (.slice p33 n34 c35)] : List Value) ∧
    (∀ h36 : AH, h36 = h20.alloc (.cells ([(.int .i64 0), (.int .i64 0), (.slice none 0 0)] : List Value) 63 false) →
    (List.length ([(.int .i64 i31), (.int .i64 i32), (.slice p33 n34 c35)] : List Value) = 3) ∧ ∃ h37 : AH, stN h36 h20.next 0 ([(.int .i64 i31), (.int .i64 i32), (.slice p33 n34 c35)] : List Value) = some h37 ∧
    (∃ i38 : Int, ld1 h37 h20.next 1 = some (.int .i64 i38) ∧
    (((i38 : Int) < 0 → ∀ i39 : Int, i39 = IntKind.wrap .i64 (i28 + 1) → ∃ j21, j21 < k19 ∧ I18 p22 n23 c24 p25 n26 c27 i39 j21 h37) ∧
    (¬ (i38 : Int) < 0 → ∃ i40 : Int, ld1 h37 h20.next 1 = some (.int .i64 i40) ∧
    (((63 : Int) < i40 → ∀ i41 : Int, i41 = IntKind.wrap .i64 (i28 + 1) → ∃ j21, j21 < k19 ∧ I18 p22 n23 c24 p25 n26 c27 i41 j21 h37) ∧
    (¬ (63 : Int) < i40 → ∃ (p42 : Option Addr) (n43 c44 : Nat), ld1 h37 h20.next 2 = some (.slice p42 n43 c44) ∧
    (((128 : Int) < ((n43 : Nat) : Int) → ∀ i45 : Int, i45 = IntKind.wrap .i64 (i28 + 1) → ∃ j21, j21 < k19 ∧ I18 p22 n23 c24 p25 n26 c27 i45 j21 h37) ∧
    (¬ (128 : Int) < ((n43 : Nat) : Int) → ∃ i46 : Int, ld1 h37 h20.next 0 = some (.int .i64 i46) ∧
    (((i46 : Int) = 1 → ∃ i47 : Int, ∃ i48 : Int, ∃ i49 : Int, ldN h37 h3.next 0 3 = some ([(.int .i64 i47), (.int .u64 i48), (.int .u32 i49)] : List Value) ∧
    (∃ i50 : Int, ld1 h37 h20.next 1 = some (.int .i64 i50) ∧
    (Wf Try.prog K 31 [(.pointer p4), (.agg #[(.int .i64 i47), (.int .u64 i48), (.int .u32 i49)]), (.int .i64 i50)] h37 fun r51 h52 =>
    (∃ i53 : Int, ∃ i54 : Int, ∃ i55 : Int, ∃ (p56 : Option Addr) (n57 c58 : Nat), ∃ i59 : Int, r51 = (.tuple #[(.agg #[(.int .i64 i53), (.int .u64 i54), (.int .u32 i55)]), (.slice p56 n57 c58), (.int .i64 i59)]) ∧
    ((List.length ([(.int .i64 i53), (.int .u64 i54), (.int .u32 i55)] : List Value) = 3) ∧ ∃ h60 : AH, stN h52 h3.next 0 ([(.int .i64 i53), (.int .u64 i54), (.int .u32 i55)] : List Value) = some h60 ∧
    (∃ i61 : Int, ld1 h60 h20.next 1 = some (.int .i64 i61) ∧
    (∃ l62 : List Value, aBuild Try.prog 57 #[] = some (.agg l62.toArray) ∧
    (((0 : Int) ≤ i61) ∧ ((i61 : Int) < 64) ∧
    ((List.length l62 = 128) ∧ ∃ h63 : AH, stN h60 h6.next (0 + Int.toNat i61 * 128) l62 = some h63 ∧
    (∃ i64 : Int, ld1 h63 h20.next 1 = some (.int .i64 i64) ∧
    (((0 : Int) ≤ i64) ∧ ((i64 : Int) < 64) ∧
    (∃ h65 : AH, st1 h63 h9.next (0 + Int.toNat i64 * 1) (.bool false) = some h65 ∧
    (((i59 : Int) = 0 → ∃ i66 : Int, ∃ i67 : Int, ∃ i68 : Int, ldN h65 h3.next 0 3 = some ([(.int .i64 i66), (.int .u64 i67), (.int .u32 i68)] : List Value) ∧
    (∀ h69 : AH, h69 = h65.alloc (.cells ([(.int .i64 i66), (.int .u64 i67), (.int .u32 i68)] : List Value) 28 false) →
    ∃ (p70 : Option Addr) (n71 c72 : Nat) (h73 : AH), aBuiltin Try.prog h69 .append #[29, 29] [(.slice p22 n23 c24), (.slice (some ⟨h65.next, 0, none⟩) 1 1)] = some (.slice p70 n71 c72, h73) ∧
    (((0 : Int) ≤ ia1) ∧ ((ia1 : Int) < 64) ∧
    (∃ l74 : List Value, ldN h73 h6.next (0 + Int.toNat ia1 * 128) 128 = some l74 ∧
    (∃ (p75 : Option Addr) (n76 c77 : Nat) (h78 : AH), aBuildSlice Try.prog h73 60 1 #[(0, (.agg l74.toArray))] = some (.slice p75 n76 c77, h78) ∧
    (∃ (p79 : Option Addr) (n80 c81 : Nat) (h82 : AH), aBuiltin Try.prog h78 .append #[60, 60] [(.slice p25 n26 c27), (.slice p75 n76 c77)] = some (.slice p79 n80 c81, h82) ∧
    (∀ i83 : Int, i83 = IntKind.wrap .i64 (i28 + 1) → ∃ j21, j21 < k19 ∧ I18 p70 n71 c72 p79 n80 c81 i83 j21 h82))))))) ∧
    (¬ (i59 : Int) = 0 → Q (.bool false) h65)))))))))))))) ∧
    (¬ (i46 : Int) = 1 → ∀ h84 : AH, h84 = h37.alloc (.cells ([] : List Value) 5 false) →
    ∃ (p85 : Option Addr) (n86 c87 : Nat), ld1 h84 h20.next 2 = some (.slice p85 n86 c87) ∧
    (∃ (p88 : Option Addr) (n89 c90 : Nat) (h91 : AH), aBuiltin Try.prog h84 .append #[61, 61] [(.slice (some ⟨h37.next, 0, none⟩) 0 0), (.slice p85 n86 c87)] = some (.slice p88 n89 c90, h91) ∧
    (∃ i92 : Int, ∃ i93 : Int, ∃ i94 : Int, ldN h91 h3.next 0 3 = some ([(.int .i64 i92), (.int .u64 i93), (.int .u32 i94)] : List Value) ∧
    (∃ i95 : Int, ld1 h91 h20.next 1 = some (.int .i64 i95) ∧
    (Wf Try.prog K 32 [(.pointer p4), (.agg #[(.int .i64 i92), (.int .u64 i93), (.int .u32 i94)]), (.int .i64 i95), (.slice p88 n89 c90)] h91 fun r96 h97 =>
    (∃ i98 : Int, ∃ i99 : Int, ∃ i100 : Int, ∃ (p101 : Option Addr) (n102 c103 : Nat), ∃ i104 : Int, r96 = (.tuple #[(.agg #[(.int .i64 i98), (.int .u64 i99), (.int .u32 i100)]), (.slice p101 n102 c103), (.int .i64 i104)]) ∧
    ((List.length ([(.int .i64 i98), (.int .u64 i99), (.int .u32 i100)] : List Value) = 3) ∧ ∃ h105 : AH, stN h97 h3.next 0 ([(.int .i64 i98), (.int .u64 i99), (.int .u32 i100)] : List Value) = some h105 ∧
    ((ldN h84 h3.next 0 3 = some ([(.int .i64 i92), (.int .u64 i93), (.int .u32 i94)] : List Value)) ∧
    ((ldN h91 h3.next 0 3 = some ([(.int .i64 i92), (.int .u64 i93), (.int .u32 i94)] : List Value)) ∧
    ((ld1 h84 h20.next 1 = some (.int .i64 i95)) ∧
    ((ld1 h91 h20.next 1 = some (.int .i64 i95)) ∧
    (∃ (p106 : Option Addr) (n107 c108 : Nat), ld1 h105 h20.next 2 = some (.slice p106 n107 c108) ∧
    (Wf Try.prog K 33 [(.slice p106 n107 c108)] h105 fun r109 h110 =>
    (∃ l111 : List Value, r109 = (.agg l111.toArray) ∧
    (∃ i112 : Int, ld1 h110 h20.next 1 = some (.int .i64 i112) ∧
    (((0 : Int) ≤ i112) ∧ ((i112 : Int) < 64) ∧
    ((List.length l111 = 128) ∧ ∃ h113 : AH, stN h110 h6.next (0 + Int.toNat i112 * 128) l111 = some h113 ∧
    ((ld1 h105 h20.next 1 = some (.int .i64 i112)) ∧
    ((ld1 h110 h20.next 1 = some (.int .i64 i112)) ∧
    (∃ i114 : Int, ld1 h113 h20.next 1 = some (.int .i64 i114) ∧
    (((0 : Int) ≤ i114) ∧ ((i114 : Int) < 64) ∧
    (∃ h115 : AH, st1 h113 h9.next (0 + Int.toNat i114 * 1) (.bool true) = some h115 ∧
    (((i104 : Int) = 0 → ∃ i116 : Int, ∃ i117 : Int, ∃ i118 : Int, ldN h115 h3.next 0 3 = some ([(.int .i64 i116), (.int .u64 i117), (.int .u32 i118)] : List Value) ∧
    (∀ h119 : AH, h119 = h115.alloc (.cells ([(.int .i64 i116), (.int .u64 i117), (.int .u32 i118)] : List Value) 28 false) →
    ∃ (p120 : Option Addr) (n121 c122 : Nat) (h123 : AH), aBuiltin Try.prog h119 .append #[29, 29] [(.slice p22 n23 c24), (.slice (some ⟨h115.next, 0, none⟩) 1 1)] = some (.slice p120 n121 c122, h123) ∧
    (((0 : Int) ≤ ia1) ∧ ((ia1 : Int) < 64) ∧
    (∃ l124 : List Value, ldN h123 h6.next (0 + Int.toNat ia1 * 128) 128 = some l124 ∧
    (∃ (p125 : Option Addr) (n126 c127 : Nat) (h128 : AH), aBuildSlice Try.prog h123 60 1 #[(0, (.agg l124.toArray))] = some (.slice p125 n126 c127, h128) ∧
    (∃ (p129 : Option Addr) (n130 c131 : Nat) (h132 : AH), aBuiltin Try.prog h128 .append #[60, 60] [(.slice p25 n26 c27), (.slice p125 n126 c127)] = some (.slice p129 n130 c131, h132) ∧
    (∀ i133 : Int, i133 = IntKind.wrap .i64 (i28 + 1) → ∃ j21, j21 < k19 ∧ I18 p120 n121 c122 p129 n130 c131 i133 j21 h132))))))) ∧
    (¬ (i104 : Int) = 0 → Q (.bool false) h115)))))))))))))))))))))))))))))))))))) ∧
    (¬ (i28 : Int) < ((na0 : Nat) : Int) → ∃ I134 : Int → Nat → AH → Prop, (∃ n, I134 0 n h20) ∧
    ∀ (k135 : Nat) (h136 : AH) (i138 : Int), I134 i138 k135 h136 →
    ((i138 : Int) < ((n23 : Nat) : Int) → derefP p22 fun b139 o140 => (((0 : Int) ≤ i138) ∧ ((i138 : Int) < ((n23 : Nat) : Int)) ∧
    (∃ i141 : Int, ∃ i142 : Int, ∃ i143 : Int, ldN h136 b139 (o140 + Int.toNat i138 * 3) 3 = some ([(.int .i64 i141), (.int .u64 i142), (.int .u32 i143)] : List Value) ∧
    (Wf Try.prog K 34 [(.pointer p4), (.agg #[(.int .i64 i141), (.int .u64 i142), (.int .u32 i143)]), (.int .i64 ia1)] h136 fun r144 h145 =>
    (∃ l146 : List Value, ∃ i147 : Int, r144 = (.tuple #[(.agg l146.toArray), (.int .i64 i147)]) ∧
    (∀ h148 : AH, h148 = h145.alloc (.cells (List.replicate 128 (.int .u8 0) : List Value) 57 false) →
    (List.length l146 = 128) ∧ ∃ h149 : AH, stN h148 h145.next 0 l146 = some h149 ∧
    (((i147 : Int) = 0 → ∃ l150 : List Value, ldN h149 h145.next 0 128 = some l150 ∧
    (derefP p25 fun b151 o152 => (((0 : Int) ≤ i138) ∧ ((i138 : Int) < ((n26 : Nat) : Int)) ∧
    (∃ l153 : List Value, ldN h149 b151 (o152 + Int.toNat i138 * 128) 128 = some l153 ∧
    (∃ la154 lb155, keyA Try.prog 57 (.agg l150.toArray) = some la154 ∧ keyA Try.prog 57 (.agg l153.toArray) = some lb155 ∧
    (litsEq la154 lb155 = true → ∀ i156 : Int, i156 = IntKind.wrap .i64 (i138 + 1) → ∃ j137, j137 < k135 ∧ I134 i156 j137 h149) ∧
    (litsEq la154 lb155 = false → Q (.bool false) h149)))))) ∧
    (¬ (i147 : Int) = 0 → Q (.bool false) h149)))))))) ∧
    (¬ (i138 : Int) < ((n23 : Nat) : Int) → ∃ i157 : Int, ∃ i158 : Int, ∃ i159 : Int, ldN h136 h3.next 0 3 = some ([(.int .i64 i157), (.int .u64 i158), (.int .u32 i159)] : List Value) ∧
    (Wf Try.prog K 35 [(.pointer p4), (.agg #[(.int .i64 i157), (.int .u64 i158), (.int .u32 i159)])] h136 fun r160 h161 =>
    (∃ (p162 : Option Addr) (n163 c164 : Nat), ∃ i165 : Int, r160 = (.tuple #[(.slice p162 n163 c164), (.int .i64 i165)]) ∧
    (∀ h166 : AH, h166 = h161.alloc (.cells ([] : List Value) 3 false) →
    ∃ I167 : Option Addr → Nat → Nat → Int → Nat → AH → Prop, (∃ n, I167 (some ⟨h161.next, 0, none⟩) 0 0 0 n h166) ∧
    ∀ (k168 : Nat) (h169 : AH) (p171 : Option Addr) (n172 : Nat) (c173 : Nat) (i174 : Int), I167 p171 n172 c173 i174 k168 h169 →
    ((i174 : Int) < 64 → ((0 : Int) ≤ i174) ∧ ((i174 : Int) < 64) ∧
    (((ld1 h169 h9.next (0 + Int.toNat i174 * 1) = some (.bool true) ∧
    (∀ h175 : AH, h175 = h169.alloc (.cells ([(.int .i64 i174)] : List Value) 3 false) →
    ∃ (p176 : Option Addr) (n177 c178 : Nat) (h179 : AH), aBuiltin Try.prog h175 .append #[70, 70] [(.slice p171 n172 c173), (.slice (some ⟨h169.next, 0, none⟩) 1 1)] = some (.slice p176 n177 c178, h179) ∧
    (∃ i180 : Int, ∃ i181 : Int, ∃ i182 : Int, ldN h179 h3.next 0 3 = some ([(.int .i64 i180), (.int .u64 i181), (.int .u32 i182)] : List Value) ∧
    (Wf Try.prog K 34 [(.pointer p4), (.agg #[(.int .i64 i180), (.int .u64 i181), (.int .u32 i182)]), (.int .i64 i174)] h179 fun r183 h184 =>
    (∃ l185 : List Value, ∃ i186 : Int, r183 = (.tuple #[(.agg l185.toArray), (.int .i64 i186)]) ∧
    (∀ h187 : AH, h187 = h184.alloc (.cells (List.replicate 128 (.int .u8 0) : List Value) 57 false) →
    (List.length l185 = 128) ∧ ∃ h188 : AH, stN h187 h184.next 0 l185 = some h188 ∧
    (((i186 : Int) = 0 → ∃ l189 : List Value, ldN h188 h184.next 0 128 = some l189 ∧
    (((0 : Int) ≤ i174) ∧ ((i174 : Int) < 64) ∧
    (∃ l190 : List Value, ldN h188 h6.next (0 + Int.toNat i174 * 128) 128 = some l190 ∧
    (∃ la191 lb192, keyA Try.prog 57 (.agg l189.toArray) = some la191 ∧ keyA Try.prog 57 (.agg l190.toArray) = some lb192 ∧
    (litsEq la191 lb192 = true → ∀ i193 : Int, i193 = IntKind.wrap .i64 (i174 + 1) → ∃ j170, j170 < k168 ∧ I167 p176 n177 c178 i193 j170 h188) ∧
    (litsEq la191 lb192 = false → Q (.bool false) h188))))) ∧
    (¬ (i186 : Int) = 0 → Q (.bool false) h188)))))))) ∨ (ld1 h169 h9.next (0 + Int.toNat i174 * 1) = some (.bool false) ∧
    (∃ i194 : Int, ∃ i195 : Int, ∃ i196 : Int, ldN h169 h3.next 0 3 = some ([(.int .i64 i194), (.int .u64 i195), (.int .u32 i196)] : List Value) ∧
    (Wf Try.prog K 34 [(.pointer p4), (.agg #[(.int .i64 i194), (.int .u64 i195), (.int .u32 i196)]), (.int .i64 i174)] h169 fun r197 h198 =>
    (∃ l199 : List Value, ∃ i200 : Int, r197 = (.tuple #[(.agg l199.toArray), (.int .i64 i200)]) ∧
    (∀ h201 : AH, h201 = h198.alloc (.cells (List.replicate 128 (.int .u8 0) : List Value) 57 false) →
    (List.length l199 = 128) ∧ ∃ h202 : AH, stN h201 h198.next 0 l199 = some h202 ∧
    (((i200 : Int) = 0 → ∃ l203 : List Value, ldN h202 h198.next 0 128 = some l203 ∧
    (((0 : Int) ≤ i174) ∧ ((i174 : Int) < 64) ∧
    (∃ l204 : List Value, ldN h202 h6.next (0 + Int.toNat i174 * 128) 128 = some l204 ∧
    (∃ la205 lb206, keyA Try.prog 57 (.agg l203.toArray) = some la205 ∧ keyA Try.prog 57 (.agg l204.toArray) = some lb206 ∧
    (litsEq la205 lb206 = true → ∀ i207 : Int, i207 = IntKind.wrap .i64 (i174 + 1) → ∃ j170, j170 < k168 ∧ I167 p171 n172 c173 i207 j170 h202) ∧
    (litsEq la205 lb206 = false → Q (.bool false) h202))))) ∧
    (¬ (i200 : Int) = 0 → Q (.bool false) h202)))))))))) ∧
    (¬ (i174 : Int) < 64 → ((i165 : Int) = 0 → Wf Try.prog K 36 [(.slice p162 n163 c164), (.slice p171 n172 c173)] h169 fun r208 h209 =>
    (((r208 = (.bool true) ∧
    (Q (.bool true) h209)) ∨ (r208 = (.bool false) ∧
    (Q (.bool false) h209))))) ∧
    (¬ (i165 : Int) = 0 → Q (.bool false) h169)))))))))))))))))))) ∨ (r0 = (.bool false) ∧
    (Q (.bool false) h1))))) :
    Wf Try.prog K 6 [(.slice pa0 na0 ca0), (.int .i64 ia1)] h Q :=
  vcF_sound (hs := [(12, [(9, .slice none 0 0), (10, .slice none 0 0), (44, .int .i64 0)]), (29, [(118, .int .i64 0)]), (38, [(19, .slice none 0 0), (149, .int .i64 0)])]) hk (Eq.mpr (by kernel_rfl) H)
end Go.Am
