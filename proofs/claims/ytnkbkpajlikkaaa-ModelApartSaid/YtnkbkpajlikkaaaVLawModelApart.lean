/-
  WEAKEST CONDITIONS of some functions of this program, printed by a program.
-/
import Derived.Test.YtnkbkpajlikkaaaAmG
import Derived.Test.YtnkbkpajlikkaaaRows
set_option linter.unusedVariables false
set_option maxRecDepth 100000
namespace Go.Am
open Go.Proofs
theorem vc_aquiferlaw21_ModelApart {K : Xs} (hk : K 4 = none) (pa0 : Option Addr) (na0 ca0 : Nat) (ia1_0 : Int) (sa1_1 : ByteArray) (sa1_2 : ByteArray) (ia1_3 : Int) (pa1_4 : Option Addr) (na1_4 ca1_4 : Nat) (pa1_5 : Option Addr) (na1_5 ca1_5 : Nat) (h : AH) (Q : Value → AH → Prop) (H :
    ∀ h0 : AH, h0 = h.alloc (.cells ([(.int .i64 ia1_0), (.string sa1_1), (.string sa1_2), (.int .i64 ia1_3), (.slice pa1_4 na1_4 ca1_4), (.slice pa1_5 na1_5 ca1_5)] : List Value) 32 false) →
    Wf Try.prog K 7 [] h0 fun r1 h2 =>
    (((r1 = (.bool true) ∧
    (((40 : Int) < ((na0 : Nat) : Int) → Q (.bool true) h2) ∧
    (¬ (40 : Int) < ((na0 : Nat) : Int) → ∃ i3 : Int, ld1 h2 h.next 0 = some (.int .i64 i3) ∧
    (((i3 : Int) = 1 → Wf Try.prog K 8 [] h2 fun r4 h5 =>
    (∃ p6 : Option Addr, r4 = (.pointer p6) ∧
    (∃ I7 : Int → Nat → AH → Prop, (∃ n, I7 0 n h5) ∧
    ∀ (k8 : Nat) (h9 : AH) (i11 : Int), I7 i11 k8 h9 →
    ((i11 : Int) < ((na0 : Nat) : Int) → derefP pa0 fun b12 o13 => (((0 : Int) ≤ i11) ∧ ((i11 : Int) < ((na0 : Nat) : Int)) ∧
    (∃ i14 : Int, ∃ s15 : ByteArray, ∃ s16 : ByteArray, ∃ i17 : Int, ∃ (p18 : Option Addr) (n19 c20 : Nat), ∃ (p21 : Option Addr) (n22 c23 : Nat), ldN h9 b12 (o13 + Int.toNat i11 * 6) 6 = some ([(.int .i64 i14), (.string s15), (.string s16), (.int .i64 i17), (.slice p18 n19 c20), (.slice p21 n22 c23)] : List Value) ∧
    (∀ h24 : AH, h24 = h9.alloc (.cells ([(.int .i64 0), (.string (ByteArray.mk #[])), (.string (ByteArray.mk #[])), (.int .i64 0), (.slice none 0 0), (.slice none 0 0)] : List Value) 32 false) →
    (List.length ([(.int .i64 i14), (.string s15), (.string s16), (.int .i64 i17), (.slice p18 n19 c20), (.slice p21 n22 c23)] : List Value) = 6) ∧ ∃ h25 : AH, stN h24 h9.next 0 ([(.int .i64 i14), (.string s15), (.string s16), (.int .i64 i17), (.slice p18 n19 c20), (.slice p21 n22 c23)] : List Value) = some h25 ∧
    (∃ i26 : Int, ∃ s27 : ByteArray, ∃ s28 : ByteArray, ∃ i29 : Int, ∃ (p30 : Option Addr) (n31 c32 : Nat), ∃ (p33 : Option Addr) (n34 c35 : Nat), ldN h25 h9.next 0 6 = some ([(.int .i64 i26), (.string s27), (.string s28), (.int .i64 i29), (.slice p30 n31 c32), (.slice p33 n34 c35)] : List Value) ∧
    (Wf Try.prog K 11 [(.pointer p6), (.agg #[(.int .i64 i26), (.string s27), (.string s28), (.int .i64 i29), (.slice p30 n31 c32), (.slice p33 n34 c35)])] h25 fun r36 h37 =>
    (∃ l38 : List Value, ∃ i39 : Int, r36 = (.tuple #[(.agg l38.toArray), (.int .i64 i39)]) ∧
    (∀ i40 : Int, i40 = IntKind.wrap .i64 (i11 + 1) → ∃ j10, j10 < k8 ∧ I7 i40 j10 h37)))))))) ∧
    (¬ (i11 : Int) < ((na0 : Nat) : Int) → Wf Try.prog K 12 [(.pointer p6)] h9 fun r41 h42 =>
    (∃ p43 : Option Addr, r41 = (.pointer p43) ∧
    (∃ i44 : Int, ∃ s45 : ByteArray, ∃ s46 : ByteArray, ∃ i47 : Int, ∃ (p48 : Option Addr) (n49 c50 : Nat), ∃ (p51 : Option Addr) (n52 c53 : Nat), ldN h42 h.next 0 6 = some ([(.int .i64 i44), (.string s45), (.string s46), (.int .i64 i47), (.slice p48 n49 c50), (.slice p51 n52 c53)] : List Value) ∧
    (Wf Try.prog K 11 [(.pointer p43), (.agg #[(.int .i64 i44), (.string s45), (.string s46), (.int .i64 i47), (.slice p48 n49 c50), (.slice p51 n52 c53)])] h42 fun r54 h55 =>
    (∃ l56 : List Value, ∃ i57 : Int, r54 = (.tuple #[(.agg l56.toArray), (.int .i64 i57)]) ∧
    (∀ h58 : AH, h58 = h55.alloc (.cells (List.replicate 128 (.int .u8 0) : List Value) 34 false) →
    (List.length l56 = 128) ∧ ∃ h59 : AH, stN h58 h55.next 0 l56 = some h59 ∧
    (Wf Try.prog K 9 [(.pointer p6)] h59 fun r60 h61 =>
    (∃ (p62 : Option Addr) (n63 c64 : Nat), r60 = (.slice p62 n63 c64) ∧
    (∃ I65 : Int → Nat → AH → Prop, (∃ n, I65 0 n h61) ∧
    ∀ (k66 : Nat) (h67 : AH) (i69 : Int), I65 i69 k66 h67 →
    ((i69 : Int) < ((n63 : Nat) : Int) → derefP p62 fun b70 o71 => (((0 : Int) ≤ i69) ∧ ((i69 : Int) < ((n63 : Nat) : Int)) ∧
    (∃ s72 : ByteArray, ∃ i73 : Int, ∃ i74 : Int, ∃ s75 : ByteArray, ldN h67 b70 (o71 + Int.toNat i69 * 4) 4 = some ([(.string s72), (.int .i64 i73), (.int .i64 i74), (.string s75)] : List Value) ∧
    (∀ h76 : AH, h76 = h67.alloc (.cells ([(.string (ByteArray.mk #[])), (.int .i64 0), (.int .i64 0), (.string (ByteArray.mk #[]))] : List Value) 39 false) →
    (List.length ([(.string s72), (.int .i64 i73), (.int .i64 i74), (.string s75)] : List Value) = 4) ∧ ∃ h77 : AH, stN h76 h67.next 0 ([(.string s72), (.int .i64 i73), (.int .i64 i74), (.string s75)] : List Value) = some h77 ∧
    (∃ I78 : Int → Nat → AH → Prop, (∃ n, I78 0 n h77) ∧
    ∀ (k79 : Nat) (h80 : AH) (i82 : Int), I78 i82 k79 h80 →
    ∃ i83 : Int, ld1 h80 h67.next 1 = some (.int .i64 i83) ∧
    (((i82 : Int) < i83 → ∃ s84 : ByteArray, ld1 h80 h67.next 0 = some (.string s84) ∧
    (Wf Try.prog K 11 [(.pointer p6), (.agg #[(.int .i64 3), (.string s84), (.string (ByteArray.mk #[])), (.int .i64 i82), (.slice none 0 0), (.slice none 0 0)])] h80 fun r85 h86 =>
    (∃ l87 : List Value, ∃ i88 : Int, r85 = (.tuple #[(.agg l87.toArray), (.int .i64 i88)]) ∧
    (∀ h89 : AH, h89 = h86.alloc (.cells (List.replicate 128 (.int .u8 0) : List Value) 34 false) →
    (List.length l87 = 128) ∧ ∃ h90 : AH, stN h89 h86.next 0 l87 = some h90 ∧
    (∃ s91 : ByteArray, ld1 h90 h67.next 0 = some (.string s91) ∧
    (Wf Try.prog K 11 [(.pointer p43), (.agg #[(.int .i64 3), (.string s91), (.string (ByteArray.mk #[])), (.int .i64 i82), (.slice none 0 0), (.slice none 0 0)])] h90 fun r92 h93 =>
    (∃ l94 : List Value, ∃ i95 : Int, r92 = (.tuple #[(.agg l94.toArray), (.int .i64 i95)]) ∧
    (∀ h96 : AH, h96 = h93.alloc (.cells (List.replicate 128 (.int .u8 0) : List Value) 34 false) →
    (List.length l94 = 128) ∧ ∃ h97 : AH, stN h96 h93.next 0 l94 = some h97 ∧
    (((i88 : Int) = 0 → ((i95 : Int) = 0 → ((i57 : Int) = 0 → ∃ s98 : ByteArray, ld1 h97 h67.next 0 = some (.string s98) ∧
    (∃ s99 : ByteArray, ld1 h97 h.next 1 = some (.string s99) ∧
    ((s98 = s99 → ∃ i100 : Int, ld1 h97 h.next 3 = some (.int .i64 i100) ∧
    (((i82 : Int) = i100 → ∀ i101 : Int, i101 = IntKind.wrap .i64 (i82 + 1) → ∃ j81, j81 < k79 ∧ I78 i101 j81 h97) ∧
    (¬ (i82 : Int) = i100 → ∃ l102 : List Value, ldN h97 h86.next 0 128 = some l102 ∧
    (∃ l103 : List Value, ldN h97 h93.next 0 128 = some l103 ∧
    (∃ la104 lb105, keyA Try.prog 34 (.agg l102.toArray) = some la104 ∧ keyA Try.prog 34 (.agg l103.toArray) = some lb105 ∧
    (litsEq la104 lb105 = true → ∀ i106 : Int, i106 = IntKind.wrap .i64 (i82 + 1) → ∃ j81, j81 < k79 ∧ I78 i106 j81 h97) ∧
    (litsEq la104 lb105 = false → Q (.bool false) h97)))))) ∧
    (¬ s98 = s99 → ∃ l107 : List Value, ldN h97 h86.next 0 128 = some l107 ∧
    (∃ l108 : List Value, ldN h97 h93.next 0 128 = some l108 ∧
    (∃ la109 lb110, keyA Try.prog 34 (.agg l107.toArray) = some la109 ∧ keyA Try.prog 34 (.agg l108.toArray) = some lb110 ∧
    (litsEq la109 lb110 = true → ∀ i111 : Int, i111 = IntKind.wrap .i64 (i82 + 1) → ∃ j81, j81 < k79 ∧ I78 i111 j81 h97) ∧
    (litsEq la109 lb110 = false → Q (.bool false) h97))))))) ∧
    (¬ (i57 : Int) = 0 → ∃ l112 : List Value, ldN h97 h86.next 0 128 = some l112 ∧
    (∃ l113 : List Value, ldN h97 h93.next 0 128 = some l113 ∧
    (∃ la114 lb115, keyA Try.prog 34 (.agg l112.toArray) = some la114 ∧ keyA Try.prog 34 (.agg l113.toArray) = some lb115 ∧
    (litsEq la114 lb115 = true → ∀ i116 : Int, i116 = IntKind.wrap .i64 (i82 + 1) → ∃ j81, j81 < k79 ∧ I78 i116 j81 h97) ∧
    (litsEq la114 lb115 = false → Q (.bool false) h97))))) ∧
    (¬ (i95 : Int) = 0 → Q (.bool false) h97)) ∧
    (¬ (i88 : Int) = 0 → Q (.bool false) h97)))))))))) ∧
    (¬ (i82 : Int) < i83 → ∀ i117 : Int, i117 = IntKind.wrap .i64 (i69 + 1) → ∃ j68, j68 < k66 ∧ I65 i117 j68 h80))))))) ∧
    (¬ (i69 : Int) < ((n63 : Nat) : Int) → Wf Try.prog K 9 [(.pointer p6)] h67 fun r118 h119 =>
    (∃ (p120 : Option Addr) (n121 c122 : Nat), r118 = (.slice p120 n121 c122) ∧
    (Wf Try.prog K 9 [(.pointer p43)] h119 fun r123 h124 =>
    (∃ (p125 : Option Addr) (n126 c127 : Nat), r123 = (.slice p125 n126 c127) ∧
    (Wf Try.prog K 13 [(.slice p120 n121 c122), (.slice p125 n126 c127)] h124 fun r128 h129 =>
    (((r128 = (.bool true) ∧
    (Q (.bool true) h129)) ∨ (r128 = (.bool false) ∧
    (Q (.bool false) h129))))))))))))))))))))) ∧
    (¬ (i3 : Int) = 1 → ∃ i130 : Int, ld1 h2 h.next 0 = some (.int .i64 i130) ∧
    (((i130 : Int) = 2 → Wf Try.prog K 8 [] h2 fun r131 h132 =>
    (∃ p133 : Option Addr, r131 = (.pointer p133) ∧
    (∃ I134 : Int → Nat → AH → Prop, (∃ n, I134 0 n h132) ∧
    ∀ (k135 : Nat) (h136 : AH) (i138 : Int), I134 i138 k135 h136 →
    ((i138 : Int) < ((na0 : Nat) : Int) → derefP pa0 fun b139 o140 => (((0 : Int) ≤ i138) ∧ ((i138 : Int) < ((na0 : Nat) : Int)) ∧
    (∃ i141 : Int, ∃ s142 : ByteArray, ∃ s143 : ByteArray, ∃ i144 : Int, ∃ (p145 : Option Addr) (n146 c147 : Nat), ∃ (p148 : Option Addr) (n149 c150 : Nat), ldN h136 b139 (o140 + Int.toNat i138 * 6) 6 = some ([(.int .i64 i141), (.string s142), (.string s143), (.int .i64 i144), (.slice p145 n146 c147), (.slice p148 n149 c150)] : List Value) ∧
    (∀ h151 : AH, h151 = h136.alloc (.cells ([(.int .i64 0), (.string (ByteArray.mk #[])), (.string (ByteArray.mk #[])), (.int .i64 0), (.slice none 0 0), (.slice none 0 0)] : List Value) 32 false) →
    (List.length ([(.int .i64 i141), (.string s142), (.string s143), (.int .i64 i144), (.slice p145 n146 c147), (.slice p148 n149 c150)] : List Value) = 6) ∧ ∃ h152 : AH, stN h151 h136.next 0 ([(.int .i64 i141), (.string s142), (.string s143), (.int .i64 i144), (.slice p145 n146 c147), (.slice p148 n149 c150)] : List Value) = some h152 ∧
    (∃ i153 : Int, ∃ s154 : ByteArray, ∃ s155 : ByteArray, ∃ i156 : Int, ∃ (p157 : Option Addr) (n158 c159 : Nat), ∃ (p160 : Option Addr) (n161 c162 : Nat), ldN h152 h136.next 0 6 = some ([(.int .i64 i153), (.string s154), (.string s155), (.int .i64 i156), (.slice p157 n158 c159), (.slice p160 n161 c162)] : List Value) ∧
    (Wf Try.prog K 11 [(.pointer p133), (.agg #[(.int .i64 i153), (.string s154), (.string s155), (.int .i64 i156), (.slice p157 n158 c159), (.slice p160 n161 c162)])] h152 fun r163 h164 =>
    (∃ l165 : List Value, ∃ i166 : Int, r163 = (.tuple #[(.agg l165.toArray), (.int .i64 i166)]) ∧
    (∀ i167 : Int, i167 = IntKind.wrap .i64 (i138 + 1) → ∃ j137, j137 < k135 ∧ I134 i167 j137 h164)))))))) ∧
    (¬ (i138 : Int) < ((na0 : Nat) : Int) → Wf Try.prog K 12 [(.pointer p133)] h136 fun r168 h169 =>
    (∃ p170 : Option Addr, r168 = (.pointer p170) ∧
    (∃ i171 : Int, ∃ s172 : ByteArray, ∃ s173 : ByteArray, ∃ i174 : Int, ∃ (p175 : Option Addr) (n176 c177 : Nat), ∃ (p178 : Option Addr) (n179 c180 : Nat), ldN h169 h.next 0 6 = some ([(.int .i64 i171), (.string s172), (.string s173), (.int .i64 i174), (.slice p175 n176 c177), (.slice p178 n179 c180)] : List Value) ∧
    (Wf Try.prog K 11 [(.pointer p170), (.agg #[(.int .i64 i171), (.string s172), (.string s173), (.int .i64 i174), (.slice p175 n176 c177), (.slice p178 n179 c180)])] h169 fun r181 h182 =>
    (∃ l183 : List Value, ∃ i184 : Int, r181 = (.tuple #[(.agg l183.toArray), (.int .i64 i184)]) ∧
    (∀ h185 : AH, h185 = h182.alloc (.cells (List.replicate 128 (.int .u8 0) : List Value) 34 false) →
    (List.length l183 = 128) ∧ ∃ h186 : AH, stN h185 h182.next 0 l183 = some h186 ∧
    (Wf Try.prog K 9 [(.pointer p133)] h186 fun r187 h188 =>
    (∃ (p189 : Option Addr) (n190 c191 : Nat), r187 = (.slice p189 n190 c191) ∧
    (∃ I192 : Int → Nat → AH → Prop, (∃ n, I192 0 n h188) ∧
    ∀ (k193 : Nat) (h194 : AH) (i196 : Int), I192 i196 k193 h194 →
    ((i196 : Int) < ((n190 : Nat) : Int) → derefP p189 fun b197 o198 => (((0 : Int) ≤ i196) ∧ ((i196 : Int) < ((n190 : Nat) : Int)) ∧
    (∃ s199 : ByteArray, ∃ i200 : Int, ∃ i201 : Int, ∃ s202 : ByteArray, ldN h194 b197 (o198 + Int.toNat i196 * 4) 4 = some ([(.string s199), (.int .i64 i200), (.int .i64 i201), (.string s202)] : List Value) ∧
    (∀ h203 : AH, h203 = h194.alloc (.cells ([(.string (ByteArray.mk #[])), (.int .i64 0), (.int .i64 0), (.string (ByteArray.mk #[]))] : List Value) 39 false) →
    (List.length ([(.string s199), (.int .i64 i200), (.int .i64 i201), (.string s202)] : List Value) = 4) ∧ ∃ h204 : AH, stN h203 h194.next 0 ([(.string s199), (.int .i64 i200), (.int .i64 i201), (.string s202)] : List Value) = some h204 ∧
    (∃ I205 : Int → Nat → AH → Prop, (∃ n, I205 0 n h204) ∧
    ∀ (k206 : Nat) (h207 : AH) (i209 : Int), I205 i209 k206 h207 →
    ∃ i210 : Int, ld1 h207 h194.next 1 = some (.int .i64 i210) ∧
    (((i209 : Int) < i210 → ∃ s211 : ByteArray, ld1 h207 h194.next 0 = some (.string s211) ∧
    (Wf Try.prog K 11 [(.pointer p133), (.agg #[(.int .i64 3), (.string s211), (.string (ByteArray.mk #[])), (.int .i64 i209), (.slice none 0 0), (.slice none 0 0)])] h207 fun r212 h213 =>
    (∃ l214 : List Value, ∃ i215 : Int, r212 = (.tuple #[(.agg l214.toArray), (.int .i64 i215)]) ∧
    (∀ h216 : AH, h216 = h213.alloc (.cells (List.replicate 128 (.int .u8 0) : List Value) 34 false) →
    (List.length l214 = 128) ∧ ∃ h217 : AH, stN h216 h213.next 0 l214 = some h217 ∧
    (∃ s218 : ByteArray, ld1 h217 h194.next 0 = some (.string s218) ∧
    (Wf Try.prog K 11 [(.pointer p170), (.agg #[(.int .i64 3), (.string s218), (.string (ByteArray.mk #[])), (.int .i64 i209), (.slice none 0 0), (.slice none 0 0)])] h217 fun r219 h220 =>
    (∃ l221 : List Value, ∃ i222 : Int, r219 = (.tuple #[(.agg l221.toArray), (.int .i64 i222)]) ∧
    (∀ h223 : AH, h223 = h220.alloc (.cells (List.replicate 128 (.int .u8 0) : List Value) 34 false) →
    (List.length l221 = 128) ∧ ∃ h224 : AH, stN h223 h220.next 0 l221 = some h224 ∧
    (((i215 : Int) = 0 → ((i222 : Int) = 0 → ((i184 : Int) = 0 → ∃ s225 : ByteArray, ld1 h224 h194.next 0 = some (.string s225) ∧
    (∃ s226 : ByteArray, ld1 h224 h.next 1 = some (.string s226) ∧
    ((s225 = s226 → ∃ i227 : Int, ld1 h224 h.next 3 = some (.int .i64 i227) ∧
    (((i209 : Int) = i227 → ∀ i228 : Int, i228 = IntKind.wrap .i64 (i209 + 1) → ∃ j208, j208 < k206 ∧ I205 i228 j208 h224) ∧
    (¬ (i209 : Int) = i227 → ∃ l229 : List Value, ldN h224 h213.next 0 128 = some l229 ∧
    (∃ l230 : List Value, ldN h224 h220.next 0 128 = some l230 ∧
    (∃ la231 lb232, keyA Try.prog 34 (.agg l229.toArray) = some la231 ∧ keyA Try.prog 34 (.agg l230.toArray) = some lb232 ∧
    (litsEq la231 lb232 = true → ∀ i233 : Int, i233 = IntKind.wrap .i64 (i209 + 1) → ∃ j208, j208 < k206 ∧ I205 i233 j208 h224) ∧
    (litsEq la231 lb232 = false → Q (.bool false) h224)))))) ∧
    (¬ s225 = s226 → ∃ l234 : List Value, ldN h224 h213.next 0 128 = some l234 ∧
    (∃ l235 : List Value, ldN h224 h220.next 0 128 = some l235 ∧
    (∃ la236 lb237, keyA Try.prog 34 (.agg l234.toArray) = some la236 ∧ keyA Try.prog 34 (.agg l235.toArray) = some lb237 ∧
    (litsEq la236 lb237 = true → ∀ i238 : Int, i238 = IntKind.wrap .i64 (i209 + 1) → ∃ j208, j208 < k206 ∧ I205 i238 j208 h224) ∧
    (litsEq la236 lb237 = false → Q (.bool false) h224))))))) ∧
    (¬ (i184 : Int) = 0 → ∃ l239 : List Value, ldN h224 h213.next 0 128 = some l239 ∧
    (∃ l240 : List Value, ldN h224 h220.next 0 128 = some l240 ∧
    (∃ la241 lb242, keyA Try.prog 34 (.agg l239.toArray) = some la241 ∧ keyA Try.prog 34 (.agg l240.toArray) = some lb242 ∧
    (litsEq la241 lb242 = true → ∀ i243 : Int, i243 = IntKind.wrap .i64 (i209 + 1) → ∃ j208, j208 < k206 ∧ I205 i243 j208 h224) ∧
    (litsEq la241 lb242 = false → Q (.bool false) h224))))) ∧
    (¬ (i222 : Int) = 0 → Q (.bool false) h224)) ∧
    (¬ (i215 : Int) = 0 → Q (.bool false) h224)))))))))) ∧
    (¬ (i209 : Int) < i210 → ∀ i244 : Int, i244 = IntKind.wrap .i64 (i196 + 1) → ∃ j195, j195 < k193 ∧ I192 i244 j195 h207))))))) ∧
    (¬ (i196 : Int) < ((n190 : Nat) : Int) → Wf Try.prog K 9 [(.pointer p133)] h194 fun r245 h246 =>
    (∃ (p247 : Option Addr) (n248 c249 : Nat), r245 = (.slice p247 n248 c249) ∧
    (Wf Try.prog K 9 [(.pointer p170)] h246 fun r250 h251 =>
    (∃ (p252 : Option Addr) (n253 c254 : Nat), r250 = (.slice p252 n253 c254) ∧
    (Wf Try.prog K 13 [(.slice p247 n248 c249), (.slice p252 n253 c254)] h251 fun r255 h256 =>
    (((r255 = (.bool true) ∧
    (Q (.bool true) h256)) ∨ (r255 = (.bool false) ∧
    (Q (.bool false) h256))))))))))))))))))))) ∧
    (¬ (i130 : Int) = 2 → Q (.bool true) h2))))))) ∨ (r1 = (.bool false) ∧
    (Q (.bool false) h2))))) :
    Wf Try.prog K 4 [(.slice pa0 na0 ca0), (.agg #[(.int .i64 ia1_0), (.string sa1_1), (.string sa1_2), (.int .i64 ia1_3), (.slice pa1_4 na1_4 ca1_4), (.slice pa1_5 na1_5 ca1_5)])] h Q :=
  vcF_sound (hs := [(7, [(36, .int .i64 0)]), (14, [(55, .int .i64 0)]), (17, [(13, .int .i64 0)])]) hk (Eq.mpr (by kernel_rfl) H)
end Go.Am
