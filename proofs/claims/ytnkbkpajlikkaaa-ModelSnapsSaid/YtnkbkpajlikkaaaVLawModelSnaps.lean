/-
  WEAKEST CONDITIONS of some functions of this program, printed by a program.
-/
import Derived.Test.YtnkbkpajlikkaaaAmG
import Derived.Test.YtnkbkpajlikkaaaRows
set_option linter.unusedVariables false
set_option maxRecDepth 100000
namespace Go.Am
open Go.Proofs
theorem vc_aquiferlaw21_ModelSnaps {K : Xs} (hk : K 5 = none) (pa0 : Option Addr) (na0 ca0 : Nat) (pa1 : Option Addr) (na1 ca1 : Nat) (sa2 : ByteArray) (h : AH) (Q : Value → AH → Prop) (H :
    Wf Try.prog K 7 [] h fun r0 h1 =>
    (((r0 = (.bool true) ∧
    (((40 : Int) < ((na0 : Nat) : Int) → Q (.bool true) h1) ∧
    (¬ (40 : Int) < ((na0 : Nat) : Int) → ((40 : Int) < ((na1 : Nat) : Int) → Q (.bool true) h1) ∧
    (¬ (40 : Int) < ((na1 : Nat) : Int) → Wf Try.prog K 8 [] h1 fun r2 h3 =>
    (∃ p4 : Option Addr, r2 = (.pointer p4) ∧
    (∃ I5 : Int → Nat → AH → Prop, (∃ n, I5 0 n h3) ∧
    ∀ (k6 : Nat) (h7 : AH) (i9 : Int), I5 i9 k6 h7 →
    ((i9 : Int) < ((na0 : Nat) : Int) → derefP pa0 fun b10 o11 => (((0 : Int) ≤ i9) ∧ ((i9 : Int) < ((na0 : Nat) : Int)) ∧
    (∃ i12 : Int, ∃ s13 : ByteArray, ∃ s14 : ByteArray, ∃ i15 : Int, ∃ (p16 : Option Addr) (n17 c18 : Nat), ∃ (p19 : Option Addr) (n20 c21 : Nat), ldN h7 b10 (o11 + Int.toNat i9 * 6) 6 = some ([(.int .i64 i12), (.string s13), (.string s14), (.int .i64 i15), (.slice p16 n17 c18), (.slice p19 n20 c21)] : List Value) ∧
    (∀ h22 : AH, h22 = h7.alloc (.cells ([(.int .i64 0), (.string (ByteArray.mk #[])), (.string (ByteArray.mk #[])), (.int .i64 0), (.slice none 0 0), (.slice none 0 0)] : List Value) 32 false) →
    (List.length ([(.int .i64 i12), (.string s13), (.string s14), (.int .i64 i15), (.slice p16 n17 c18), (.slice p19 n20 c21)] : List Value) = 6) ∧ ∃ h23 : AH, stN h22 h7.next 0 ([(.int .i64 i12), (.string s13), (.string s14), (.int .i64 i15), (.slice p16 n17 c18), (.slice p19 n20 c21)] : List Value) = some h23 ∧
    (∃ i24 : Int, ∃ s25 : ByteArray, ∃ s26 : ByteArray, ∃ i27 : Int, ∃ (p28 : Option Addr) (n29 c30 : Nat), ∃ (p31 : Option Addr) (n32 c33 : Nat), ldN h23 h7.next 0 6 = some ([(.int .i64 i24), (.string s25), (.string s26), (.int .i64 i27), (.slice p28 n29 c30), (.slice p31 n32 c33)] : List Value) ∧
    (Wf Try.prog K 11 [(.pointer p4), (.agg #[(.int .i64 i24), (.string s25), (.string s26), (.int .i64 i27), (.slice p28 n29 c30), (.slice p31 n32 c33)])] h23 fun r34 h35 =>
    (∃ l36 : List Value, ∃ i37 : Int, r34 = (.tuple #[(.agg l36.toArray), (.int .i64 i37)]) ∧
    (∀ i38 : Int, i38 = IntKind.wrap .i64 (i9 + 1) → ∃ j8, j8 < k6 ∧ I5 i38 j8 h35)))))))) ∧
    (¬ (i9 : Int) < ((na0 : Nat) : Int) → Wf Try.prog K 11 [(.pointer p4), (.agg #[(.int .i64 4), (.string sa2), (.string (ByteArray.mk #[])), (.int .i64 0), (.slice none 0 0), (.slice none 0 0)])] h7 fun r39 h40 =>
    (∃ l41 : List Value, ∃ i42 : Int, r39 = (.tuple #[(.agg l41.toArray), (.int .i64 i42)]) ∧
    (∀ h43 : AH, h43 = h40.alloc (.cells (List.replicate 128 (.int .u8 0) : List Value) 34 false) →
    (List.length l41 = 128) ∧ ∃ h44 : AH, stN h43 h40.next 0 l41 = some h44 ∧
    (((i42 : Int) = 0 → Wf Try.prog K 12 [(.pointer p4)] h44 fun r45 h46 =>
    (∃ p47 : Option Addr, r45 = (.pointer p47) ∧
    (∃ I48 : ByteArray → Int → Nat → AH → Prop, (∃ n, I48 sa2 0 n h46) ∧
    ∀ (k49 : Nat) (h50 : AH) (s52 : ByteArray) (i53 : Int), I48 s52 i53 k49 h50 →
    ((i53 : Int) < ((na1 : Nat) : Int) → derefP pa1 fun b54 o55 => (((0 : Int) ≤ i53) ∧ ((i53 : Int) < ((na1 : Nat) : Int)) ∧
    (∃ i56 : Int, ∃ s57 : ByteArray, ∃ s58 : ByteArray, ∃ i59 : Int, ∃ (p60 : Option Addr) (n61 c62 : Nat), ∃ (p63 : Option Addr) (n64 c65 : Nat), ldN h50 b54 (o55 + Int.toNat i53 * 6) 6 = some ([(.int .i64 i56), (.string s57), (.string s58), (.int .i64 i59), (.slice p60 n61 c62), (.slice p63 n64 c65)] : List Value) ∧
    (∀ h66 : AH, h66 = h50.alloc (.cells ([(.int .i64 0), (.string (ByteArray.mk #[])), (.string (ByteArray.mk #[])), (.int .i64 0), (.slice none 0 0), (.slice none 0 0)] : List Value) 32 false) →
    (List.length ([(.int .i64 i56), (.string s57), (.string s58), (.int .i64 i59), (.slice p60 n61 c62), (.slice p63 n64 c65)] : List Value) = 6) ∧ ∃ h67 : AH, stN h66 h50.next 0 ([(.int .i64 i56), (.string s57), (.string s58), (.int .i64 i59), (.slice p60 n61 c62), (.slice p63 n64 c65)] : List Value) = some h67 ∧
    (∃ i68 : Int, ld1 h67 h50.next 0 = some (.int .i64 i68) ∧
    (((i68 : Int) = 8 → ∃ s69 : ByteArray, ld1 h67 h50.next 1 = some (.string s69) ∧
    ((s69 = s52 → ∀ i70 : Int, i70 = IntKind.wrap .i64 (i53 + 1) → ∃ j51, j51 < k49 ∧ I48 s52 i70 j51 h67) ∧
    (¬ s69 = s52 → Wf Try.prog K 9 [(.pointer p4)] h67 fun r71 h72 =>
    (∃ (p73 : Option Addr) (n74 c75 : Nat), r71 = (.slice p73 n74 c75) ∧
    (∃ i76 : Int, ∃ s77 : ByteArray, ∃ s78 : ByteArray, ∃ i79 : Int, ∃ (p80 : Option Addr) (n81 c82 : Nat), ∃ (p83 : Option Addr) (n84 c85 : Nat), ldN h72 h50.next 0 6 = some ([(.int .i64 i76), (.string s77), (.string s78), (.int .i64 i79), (.slice p80 n81 c82), (.slice p83 n84 c85)] : List Value) ∧
    (Wf Try.prog K 11 [(.pointer p4), (.agg #[(.int .i64 i76), (.string s77), (.string s78), (.int .i64 i79), (.slice p80 n81 c82), (.slice p83 n84 c85)])] h72 fun r86 h87 =>
    (∃ l88 : List Value, ∃ i89 : Int, r86 = (.tuple #[(.agg l88.toArray), (.int .i64 i89)]) ∧
    (∃ i90 : Int, ld1 h87 h50.next 0 = some (.int .i64 i90) ∧
    (((i90 : Int) = 6 → Wf Try.prog K 9 [(.pointer p4)] h87 fun r91 h92 =>
    (∃ (p93 : Option Addr) (n94 c95 : Nat), r91 = (.slice p93 n94 c95) ∧
    (∃ I96 : ByteArray → Int → Nat → AH → Prop, (∃ n, I96 s52 0 n h92) ∧
    ∀ (k97 : Nat) (h98 : AH) (s100 : ByteArray) (i101 : Int), I96 s100 i101 k97 h98 →
    ((i101 : Int) < ((n94 : Nat) : Int) → derefP p93 fun b102 o103 => (((0 : Int) ≤ i101) ∧ ((i101 : Int) < ((n94 : Nat) : Int)) ∧
    (∃ s104 : ByteArray, ∃ i105 : Int, ∃ i106 : Int, ∃ s107 : ByteArray, ldN h98 b102 (o103 + Int.toNat i101 * 4) 4 = some ([(.string s104), (.int .i64 i105), (.int .i64 i106), (.string s107)] : List Value) ∧
    (∀ h108 : AH, h108 = h98.alloc (.cells ([(.string (ByteArray.mk #[])), (.int .i64 0), (.int .i64 0), (.string (ByteArray.mk #[]))] : List Value) 39 false) →
    (List.length ([(.string s104), (.int .i64 i105), (.int .i64 i106), (.string s107)] : List Value) = 4) ∧ ∃ h109 : AH, stN h108 h98.next 0 ([(.string s104), (.int .i64 i105), (.int .i64 i106), (.string s107)] : List Value) = some h109 ∧
    (derefP p73 fun b110 o111 => (((0 : Int) ≤ i101) ∧ ((i101 : Int) < ((n74 : Nat) : Int)) ∧
    (∃ s112 : ByteArray, ld1 h109 b110 (o111 + Int.toNat i101 * 4) = some (.string s112) ∧
    ((s112 = s100 → ∃ s113 : ByteArray, ld1 h109 h98.next 0 = some (.string s113) ∧
    (∀ i114 : Int, i114 = IntKind.wrap .i64 (i53 + 1) → ∃ j51, j51 < k49 ∧ I48 s113 i114 j51 h109)) ∧
    (¬ s112 = s100 → ∀ i115 : Int, i115 = IntKind.wrap .i64 (i101 + 1) → ∃ j99, j99 < k97 ∧ I96 s100 i115 j99 h109))))))))) ∧
    (¬ (i101 : Int) < ((n94 : Nat) : Int) → ∀ i116 : Int, i116 = IntKind.wrap .i64 (i53 + 1) → ∃ j51, j51 < k49 ∧ I48 s100 i116 j51 h98)))) ∧
    (¬ (i90 : Int) = 6 → ∀ i117 : Int, i117 = IntKind.wrap .i64 (i53 + 1) → ∃ j51, j51 < k49 ∧ I48 s52 i117 j51 h87)))))))))) ∧
    (¬ (i68 : Int) = 8 → Wf Try.prog K 9 [(.pointer p4)] h67 fun r118 h119 =>
    (∃ (p120 : Option Addr) (n121 c122 : Nat), r118 = (.slice p120 n121 c122) ∧
    (∃ i123 : Int, ∃ s124 : ByteArray, ∃ s125 : ByteArray, ∃ i126 : Int, ∃ (p127 : Option Addr) (n128 c129 : Nat), ∃ (p130 : Option Addr) (n131 c132 : Nat), ldN h119 h50.next 0 6 = some ([(.int .i64 i123), (.string s124), (.string s125), (.int .i64 i126), (.slice p127 n128 c129), (.slice p130 n131 c132)] : List Value) ∧
    (Wf Try.prog K 11 [(.pointer p4), (.agg #[(.int .i64 i123), (.string s124), (.string s125), (.int .i64 i126), (.slice p127 n128 c129), (.slice p130 n131 c132)])] h119 fun r133 h134 =>
    (∃ l135 : List Value, ∃ i136 : Int, r133 = (.tuple #[(.agg l135.toArray), (.int .i64 i136)]) ∧
    (∃ i137 : Int, ld1 h134 h50.next 0 = some (.int .i64 i137) ∧
    (((i137 : Int) = 6 → Wf Try.prog K 9 [(.pointer p4)] h134 fun r138 h139 =>
    (∃ (p140 : Option Addr) (n141 c142 : Nat), r138 = (.slice p140 n141 c142) ∧
    (∃ I143 : ByteArray → Int → Nat → AH → Prop, (∃ n, I143 s52 0 n h139) ∧
    ∀ (k144 : Nat) (h145 : AH) (s147 : ByteArray) (i148 : Int), I143 s147 i148 k144 h145 →
    ((i148 : Int) < ((n141 : Nat) : Int) → derefP p140 fun b149 o150 => (((0 : Int) ≤ i148) ∧ ((i148 : Int) < ((n141 : Nat) : Int)) ∧
    (∃ s151 : ByteArray, ∃ i152 : Int, ∃ i153 : Int, ∃ s154 : ByteArray, ldN h145 b149 (o150 + Int.toNat i148 * 4) 4 = some ([(.string s151), (.int .i64 i152), (.int .i64 i153), (.string s154)] : List Value) ∧
    (∀ h155 : AH, h155 = h145.alloc (.cells ([(.string (ByteArray.mk #[])), (.int .i64 0), (.int .i64 0), (.string (ByteArray.mk #[]))] : List Value) 39 false) →
    (List.length ([(.string s151), (.int .i64 i152), (.int .i64 i153), (.string s154)] : List Value) = 4) ∧ ∃ h156 : AH, stN h155 h145.next 0 ([(.string s151), (.int .i64 i152), (.int .i64 i153), (.string s154)] : List Value) = some h156 ∧
    (derefP p120 fun b157 o158 => (((0 : Int) ≤ i148) ∧ ((i148 : Int) < ((n121 : Nat) : Int)) ∧
    (∃ s159 : ByteArray, ld1 h156 b157 (o158 + Int.toNat i148 * 4) = some (.string s159) ∧
    ((s159 = s147 → ∃ s160 : ByteArray, ld1 h156 h145.next 0 = some (.string s160) ∧
    (∀ i161 : Int, i161 = IntKind.wrap .i64 (i53 + 1) → ∃ j51, j51 < k49 ∧ I48 s160 i161 j51 h156)) ∧
    (¬ s159 = s147 → ∀ i162 : Int, i162 = IntKind.wrap .i64 (i148 + 1) → ∃ j146, j146 < k144 ∧ I143 s147 i162 j146 h156))))))))) ∧
    (¬ (i148 : Int) < ((n141 : Nat) : Int) → ∀ i163 : Int, i163 = IntKind.wrap .i64 (i53 + 1) → ∃ j51, j51 < k49 ∧ I48 s147 i163 j51 h145)))) ∧
    (¬ (i137 : Int) = 6 → ∀ i164 : Int, i164 = IntKind.wrap .i64 (i53 + 1) → ∃ j51, j51 < k49 ∧ I48 s52 i164 j51 h134)))))))))))))) ∧
    (¬ (i53 : Int) < ((na1 : Nat) : Int) → ∃ I165 : Int → Nat → AH → Prop, (∃ n, I165 0 n h50) ∧
    ∀ (k166 : Nat) (h167 : AH) (i169 : Int), I165 i169 k166 h167 →
    ((i169 : Int) < 64 → Wf Try.prog K 11 [(.pointer p47), (.agg #[(.int .i64 3), (.string sa2), (.string (ByteArray.mk #[])), (.int .i64 i169), (.slice none 0 0), (.slice none 0 0)])] h167 fun r170 h171 =>
    (∃ l172 : List Value, ∃ i173 : Int, r170 = (.tuple #[(.agg l172.toArray), (.int .i64 i173)]) ∧
    (∀ h174 : AH, h174 = h171.alloc (.cells (List.replicate 128 (.int .u8 0) : List Value) 34 false) →
    (List.length l172 = 128) ∧ ∃ h175 : AH, stN h174 h171.next 0 l172 = some h175 ∧
    (Wf Try.prog K 11 [(.pointer p4), (.agg #[(.int .i64 3), (.string s52), (.string (ByteArray.mk #[])), (.int .i64 i169), (.slice none 0 0), (.slice none 0 0)])] h175 fun r176 h177 =>
    (∃ l178 : List Value, ∃ i179 : Int, r176 = (.tuple #[(.agg l178.toArray), (.int .i64 i179)]) ∧
    (∀ h180 : AH, h180 = h177.alloc (.cells (List.replicate 128 (.int .u8 0) : List Value) 34 false) →
    (List.length l178 = 128) ∧ ∃ h181 : AH, stN h180 h177.next 0 l178 = some h181 ∧
    (((i173 : Int) = i179 → ∃ l182 : List Value, ldN h181 h171.next 0 128 = some l182 ∧
    (∃ l183 : List Value, ldN h181 h177.next 0 128 = some l183 ∧
    (∃ la184 lb185, keyA Try.prog 34 (.agg l182.toArray) = some la184 ∧ keyA Try.prog 34 (.agg l183.toArray) = some lb185 ∧
    (litsEq la184 lb185 = true → ∀ i186 : Int, i186 = IntKind.wrap .i64 (i169 + 1) → ∃ j168, j168 < k166 ∧ I165 i186 j168 h181) ∧
    (litsEq la184 lb185 = false → Q (.bool false) h181)))) ∧
    (¬ (i173 : Int) = i179 → Q (.bool false) h181)))))))) ∧
    (¬ (i169 : Int) < 64 → Q (.bool true) h167))))) ∧
    (¬ (i42 : Int) = 0 → Q (.bool true) h44))))))))))) ∨ (r0 = (.bool false) ∧
    (Q (.bool false) h1))))) :
    Wf Try.prog K 5 [(.slice pa0 na0 ca0), (.slice pa1 na1 ca1), (.string sa2)] h Q :=
  vcF_sound (hs := [(7, [(37, .int .i64 0)]), (17, [(13, .string ⟨#[]⟩), (59, .int .i64 0)]), (24, [(13, .string ⟨#[]⟩), (83, .int .i64 0)]), (31, [(19, .int .i64 0)])]) hk (Eq.mpr (by kernel_rfl) H)
end Go.Am
