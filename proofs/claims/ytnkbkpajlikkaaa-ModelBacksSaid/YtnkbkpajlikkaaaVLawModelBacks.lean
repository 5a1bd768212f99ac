/-
  WEAKEST CONDITIONS of some functions of this program, printed by a program.
-/
import Derived.Test.YtnkbkpajlikkaaaAmG
import Derived.Test.YtnkbkpajlikkaaaRows
set_option linter.unusedVariables false
set_option maxRecDepth 100000
namespace Go.Am
open Go.Proofs
theorem vc_aquiferlaw21_ModelBacks {K : Xs} (hk : K 6 = none) (pa0 : Option Addr) (na0 ca0 : Nat) (ia1_0 : Int) (sa1_1 : ByteArray) (sa1_2 : ByteArray) (ia1_3 : Int) (pa1_4 : Option Addr) (na1_4 ca1_4 : Nat) (pa1_5 : Option Addr) (na1_5 ca1_5 : Nat) (h : AH) (Q : Value → AH → Prop) (H :
    ∀ h0 : AH, h0 = h.alloc (.cells ([(.int .i64 ia1_0), (.string sa1_1), (.string sa1_2), (.int .i64 ia1_3), (.slice pa1_4 na1_4 ca1_4), (.slice pa1_5 na1_5 ca1_5)] : List Value) 32 false) →
    Wf Try.prog K 7 [] h0 fun r1 h2 =>
    (((r1 = (.bool true) ∧
    (((40 : Int) < ((na0 : Nat) : Int) → Q (.bool true) h2) ∧
    (¬ (40 : Int) < ((na0 : Nat) : Int) → Wf Try.prog K 8 [] h2 fun r3 h4 =>
    (∃ p5 : Option Addr, r3 = (.pointer p5) ∧
    (∃ I6 : Int → Nat → AH → Prop, (∃ n, I6 0 n h4) ∧
    ∀ (k7 : Nat) (h8 : AH), ∀ (i10 : Int), I6 i10 k7 h8 →
    ((i10 : Int) < ((na0 : Nat) : Int) → derefP pa0 fun b11 o12 => (((0 : Int) ≤ i10) ∧ ((i10 : Int) < ((na0 : Nat) : Int)) ∧
    (∃ i13 : Int, ∃ s14 : ByteArray, ∃ s15 : ByteArray, ∃ i16 : Int, ∃ (p17 : Option Addr) (n18 c19 : Nat), ∃ (p20 : Option Addr) (n21 c22 : Nat), ldN h8 b11 (o12 + Int.toNat i10 * 6) 6 = some ([(.int .i64 i13), (.string s14), (.string s15), (.int .i64 i16), (.slice p17 n18 c19), (.slice p20 n21 c22)] : List Value) ∧
    (∀ h23 : AH, h23 = h8.alloc (.cells ([(.int .i64 0), (.string (ByteArray.mk #[])), (.string (ByteArray.mk #[])), (.int .i64 0), (.slice none 0 0), (.slice none 0 0)] : List Value) 32 false) →
    (List.length ([(.int .i64 i13), (.string s14), (.string s15), (.int .i64 i16), (.slice p17 n18 c19), (.slice p20 n21 c22)] : List Value) = 6) ∧ ∃ h24 : AH, stN h23 h8.next 0 ([(.int .i64 i13), (.string s14), (.string s15), (.int .i64 i16), (.slice p17 n18 c19), (.slice p20 n21 c22)] : List Value) = some h24 ∧
    (Wf Try.prog K 10 [(.pointer p5)] h24 fun r25 h26 =>
    (∃ i27 : Int, r25 = (.int .i64 i27) ∧
    (∃ i28 : Int, ∃ s29 : ByteArray, ∃ s30 : ByteArray, ∃ i31 : Int, ∃ (p32 : Option Addr) (n33 c34 : Nat), ∃ (p35 : Option Addr) (n36 c37 : Nat), ldN h26 h8.next 0 6 = some ([(.int .i64 i28), (.string s29), (.string s30), (.int .i64 i31), (.slice p32 n33 c34), (.slice p35 n36 c37)] : List Value) ∧
    (Wf Try.prog K 11 [(.pointer p5), (.agg #[(.int .i64 i28), (.string s29), (.string s30), (.int .i64 i31), (.slice p32 n33 c34), (.slice p35 n36 c37)])] h26 fun r38 h39 =>
    (∃ l40 : List Value, ∃ i41 : Int, r38 = (.tuple #[(.agg l40.toArray), (.int .i64 i41)]) ∧
    (∀ h42 : AH, h42 = h39.alloc (.cells (List.replicate 128 (.int .u8 0) : List Value) 34 false) →
    (List.length l40 = 128) ∧ ∃ h43 : AH, stN h42 h39.next 0 l40 = some h43 ∧
    (Wf Try.prog K 10 [(.pointer p5)] h43 fun r44 h45 =>
    (∃ i46 : Int, r44 = (.int .i64 i46) ∧
    (((i27 : Int) < i46 → ∃ i47 : Int, ld1 h45 h8.next 0 = some (.int .i64 i47) ∧
    (((i47 : Int) = 1 → ((i41 : Int) = 0 → Wf Try.prog K 10 [(.pointer p5)] h45 fun r48 h49 =>
    (∃ i50 : Int, r48 = (.int .i64 i50) ∧
    (∀ i51 : Int, i51 = IntKind.wrap .i64 (i27 + 1) → ((i51 : Int) < i50 → Q (.bool false) h49) ∧
    (¬ (i51 : Int) < i50 → ∀ i52 : Int, i52 = IntKind.wrap .i64 (i10 + 1) → ∃ j9, j9 < k7 ∧ I6 i52 j9 h49)))) ∧
    (¬ (i41 : Int) = 0 → Q (.bool false) h45)) ∧
    (¬ (i47 : Int) = 1 → Q (.bool false) h45))) ∧
    (¬ (i27 : Int) < i46 → ∀ i53 : Int, i53 = IntKind.wrap .i64 (i10 + 1) → ∃ j9, j9 < k7 ∧ I6 i53 j9 h45)))))))))))))) ∧
    (¬ (i10 : Int) < ((na0 : Nat) : Int) → Wf Try.prog K 9 [(.pointer p5)] h8 fun r54 h55 =>
    (∃ (p56 : Option Addr) (n57 c58 : Nat), r54 = (.slice p56 n57 c58) ∧
    (∃ I59 : Int → Nat → AH → Prop, (∃ n, I59 0 n h55) ∧
    ∀ (k60 : Nat) (h61 : AH), ∀ (i63 : Int), I59 i63 k60 h61 →
    ((i63 : Int) < ((n57 : Nat) : Int) → derefP p56 fun b64 o65 => (((0 : Int) ≤ i63) ∧ ((i63 : Int) < ((n57 : Nat) : Int)) ∧
    (∃ s66 : ByteArray, ∃ i67 : Int, ∃ i68 : Int, ∃ s69 : ByteArray, ldN h61 b64 (o65 + Int.toNat i63 * 4) 4 = some ([(.string s66), (.int .i64 i67), (.int .i64 i68), (.string s69)] : List Value) ∧
    (∀ h70 : AH, h70 = h61.alloc (.cells ([(.string (ByteArray.mk #[])), (.int .i64 0), (.int .i64 0), (.string (ByteArray.mk #[]))] : List Value) 39 false) →
    (List.length ([(.string s66), (.int .i64 i67), (.int .i64 i68), (.string s69)] : List Value) = 4) ∧ ∃ h71 : AH, stN h70 h61.next 0 ([(.string s66), (.int .i64 i67), (.int .i64 i68), (.string s69)] : List Value) = some h71 ∧
    (Wf Try.prog K 12 [(.pointer p5)] h71 fun r72 h73 =>
    (∃ p74 : Option Addr, r72 = (.pointer p74) ∧
    (Wf Try.prog K 9 [(.pointer p5)] h73 fun r75 h76 =>
    (∃ (p77 : Option Addr) (n78 c79 : Nat), r75 = (.slice p77 n78 c79) ∧
    (∃ I80 : ByteArray → Int → Nat → AH → Prop, (∃ n, I80 (ByteArray.mk #[]) 0 n h76) ∧
    ∀ (k81 : Nat) (h82 : AH), ∀ (s84 : ByteArray), ∀ (i85 : Int), I80 s84 i85 k81 h82 →
    ((i85 : Int) < ((n78 : Nat) : Int) → derefP p77 fun b86 o87 => (((0 : Int) ≤ i85) ∧ ((i85 : Int) < ((n78 : Nat) : Int)) ∧
    (∃ s88 : ByteArray, ∃ i89 : Int, ∃ i90 : Int, ∃ s91 : ByteArray, ldN h82 b86 (o87 + Int.toNat i85 * 4) 4 = some ([(.string s88), (.int .i64 i89), (.int .i64 i90), (.string s91)] : List Value) ∧
    (∀ h92 : AH, h92 = h82.alloc (.cells ([(.string (ByteArray.mk #[])), (.int .i64 0), (.int .i64 0), (.string (ByteArray.mk #[]))] : List Value) 39 false) →
    (List.length ([(.string s88), (.int .i64 i89), (.int .i64 i90), (.string s91)] : List Value) = 4) ∧ ∃ h93 : AH, stN h92 h82.next 0 ([(.string s88), (.int .i64 i89), (.int .i64 i90), (.string s91)] : List Value) = some h93 ∧
    (∃ s94 : ByteArray, ld1 h93 h82.next 0 = some (.string s94) ∧
    (∃ s95 : ByteArray, ld1 h93 h61.next 0 = some (.string s95) ∧
    (((((ByteArray.size s95 : Nat) : Int) : Int) < ((ByteArray.size s94 : Nat) : Int) → ∃ s96 : ByteArray, ld1 h93 h82.next 0 = some (.string s96) ∧
    (∃ s97 : ByteArray, ld1 h93 h61.next 0 = some (.string s97) ∧
    (∃ s98 : ByteArray, aSlice Try.prog h93 9 (.string s96) none (some (.int .i64 ((ByteArray.size s97 : Nat) : Int))) none = some (.string s98) ∧
    (∃ s99 : ByteArray, ld1 h93 h61.next 0 = some (.string s99) ∧
    ((s98 = s99 → ∃ s100 : ByteArray, ld1 h93 h82.next 0 = some (.string s100) ∧
    (∃ s101 : ByteArray, ld1 h93 h61.next 0 = some (.string s101) ∧
    (((0 : Int) ≤ ((ByteArray.size s101 : Nat) : Int)) ∧ ∃ c102 : UInt8, s100[Int.toNat ((ByteArray.size s101 : Nat) : Int)]? = some c102 ∧
    (((((c102.toNat : Nat) : Int) : Int) = 64 → ∃ s103 : ByteArray, ld1 h93 h82.next 0 = some (.string s103) ∧
    (∀ i104 : Int, i104 = IntKind.wrap .i64 (i85 + 1) → ∃ j83, j83 < k81 ∧ I80 s103 i104 j83 h93)) ∧
    (¬ (((c102.toNat : Nat) : Int) : Int) = 64 → ∀ i105 : Int, i105 = IntKind.wrap .i64 (i85 + 1) → ∃ j83, j83 < k81 ∧ I80 s84 i105 j83 h93))))) ∧
    (¬ s98 = s99 → ∀ i106 : Int, i106 = IntKind.wrap .i64 (i85 + 1) → ∃ j83, j83 < k81 ∧ I80 s84 i106 j83 h93)))))) ∧
    (¬ (((ByteArray.size s95 : Nat) : Int) : Int) < ((ByteArray.size s94 : Nat) : Int) → ∀ i107 : Int, i107 = IntKind.wrap .i64 (i85 + 1) → ∃ j83, j83 < k81 ∧ I80 s84 i107 j83 h93)))))))) ∧
    (¬ (i85 : Int) < ((n78 : Nat) : Int) → ∃ s108 : ByteArray, ld1 h82 h61.next 0 = some (.string s108) ∧
    (Wf Try.prog K 11 [(.pointer p74), (.agg #[(.int .i64 7), (.string s108), (.string (ByteArray.mk #[])), (.int .i64 0), (.slice none 0 0), (.slice none 0 0)])] h82 fun r109 h110 =>
    (∃ l111 : List Value, ∃ i112 : Int, r109 = (.tuple #[(.agg l111.toArray), (.int .i64 i112)]) ∧
    (∀ h113 : AH, h113 = h110.alloc (.cells (List.replicate 128 (.int .u8 0) : List Value) 34 false) →
    (List.length l111 = 128) ∧ ∃ h114 : AH, stN h113 h110.next 0 l111 = some h114 ∧
    (((i112 : Int) = 0 → (s84 = (ByteArray.mk #[]) → ∀ i115 : Int, i115 = IntKind.wrap .i64 (i63 + 1) → ∃ j62, j62 < k60 ∧ I59 i115 j62 h114) ∧
    (¬ s84 = (ByteArray.mk #[]) → ∃ s116 : ByteArray, ld1 h114 h61.next 3 = some (.string s116) ∧
    ((s116 = (ByteArray.mk #[]) → Wf Try.prog K 9 [(.pointer p5)] h114 fun r117 h118 =>
    (∃ (p119 : Option Addr) (n120 c121 : Nat), r117 = (.slice p119 n120 c121) ∧
    (∃ I122 : Bool → Int → Nat → AH → Prop, (∃ n, I122 false 0 n h118) ∧
    ∀ (k123 : Nat) (h124 : AH), ((∀ (i126 : Int), I122 true i126 k123 h124 →
    ((i126 : Int) < ((n120 : Nat) : Int) → derefP p119 fun b127 o128 => (((0 : Int) ≤ i126) ∧ ((i126 : Int) < ((n120 : Nat) : Int)) ∧
    (∃ s129 : ByteArray, ∃ i130 : Int, ∃ i131 : Int, ∃ s132 : ByteArray, ldN h124 b127 (o128 + Int.toNat i126 * 4) 4 = some ([(.string s129), (.int .i64 i130), (.int .i64 i131), (.string s132)] : List Value) ∧
    (∀ h133 : AH, h133 = h124.alloc (.cells ([(.string (ByteArray.mk #[])), (.int .i64 0), (.int .i64 0), (.string (ByteArray.mk #[]))] : List Value) 39 false) →
    (List.length ([(.string s129), (.int .i64 i130), (.int .i64 i131), (.string s132)] : List Value) = 4) ∧ ∃ h134 : AH, stN h133 h124.next 0 ([(.string s129), (.int .i64 i130), (.int .i64 i131), (.string s132)] : List Value) = some h134 ∧
    (∃ s135 : ByteArray, ld1 h134 h124.next 0 = some (.string s135) ∧
    (∃ s136 : ByteArray, ld1 h134 h61.next 0 = some (.string s136) ∧
    (((((ByteArray.size s136 : Nat) : Int) : Int) < ((ByteArray.size s135 : Nat) : Int) → ∃ s137 : ByteArray, ld1 h134 h124.next 0 = some (.string s137) ∧
    (∃ s138 : ByteArray, ld1 h134 h61.next 0 = some (.string s138) ∧
    (∃ s139 : ByteArray, aSlice Try.prog h134 9 (.string s137) none (some (.int .i64 ((ByteArray.size s138 : Nat) : Int))) none = some (.string s139) ∧
    (∃ s140 : ByteArray, ld1 h134 h61.next 0 = some (.string s140) ∧
    ((s139 = s140 → ∃ s141 : ByteArray, ld1 h134 h124.next 0 = some (.string s141) ∧
    (∃ s142 : ByteArray, ld1 h134 h61.next 0 = some (.string s142) ∧
    (((0 : Int) ≤ ((ByteArray.size s142 : Nat) : Int)) ∧ ∃ c143 : UInt8, s141[Int.toNat ((ByteArray.size s142 : Nat) : Int)]? = some c143 ∧
    (((((c143.toNat : Nat) : Int) : Int) = 64 → ∀ i144 : Int, i144 = IntKind.wrap .i64 (i126 + 1) → ∃ j125, j125 < k123 ∧ I122 true i144 j125 h134) ∧
    (¬ (((c143.toNat : Nat) : Int) : Int) = 64 → ∀ i145 : Int, i145 = IntKind.wrap .i64 (i126 + 1) → ∃ j125, j125 < k123 ∧ I122 true i145 j125 h134))))) ∧
    (¬ s139 = s140 → ∀ i146 : Int, i146 = IntKind.wrap .i64 (i126 + 1) → ∃ j125, j125 < k123 ∧ I122 true i146 j125 h134)))))) ∧
    (¬ (((ByteArray.size s136 : Nat) : Int) : Int) < ((ByteArray.size s135 : Nat) : Int) → ∀ i147 : Int, i147 = IntKind.wrap .i64 (i126 + 1) → ∃ j125, j125 < k123 ∧ I122 true i147 j125 h134)))))))) ∧
    (¬ (i126 : Int) < ((n120 : Nat) : Int) → Wf Try.prog K 9 [(.pointer p74)] h124 fun r148 h149 =>
    (∃ (p150 : Option Addr) (n151 c152 : Nat), r148 = (.slice p150 n151 c152) ∧
    (Wf Try.prog K 9 [(.pointer p5)] h149 fun r153 h154 =>
    (∃ (p155 : Option Addr) (n156 c157 : Nat), r153 = (.slice p155 n156 c157) ∧
    (Wf Try.prog K 13 [(.slice p150 n151 c152), (.slice p155 n156 c157)] h154 fun r158 h159 =>
    (((r158 = (.bool true) ∧
    (∀ i160 : Int, i160 = IntKind.wrap .i64 (i63 + 1) → ∃ j62, j62 < k60 ∧ I59 i160 j62 h159)) ∨ (r158 = (.bool false) ∧
    (Q (.bool false) h159)))))))))) ∧
    (∀ (i161 : Int), I122 false i161 k123 h124 →
    ((i161 : Int) < ((n120 : Nat) : Int) → derefP p119 fun b162 o163 => (((0 : Int) ≤ i161) ∧ ((i161 : Int) < ((n120 : Nat) : Int)) ∧
    (∃ s164 : ByteArray, ∃ i165 : Int, ∃ i166 : Int, ∃ s167 : ByteArray, ldN h124 b162 (o163 + Int.toNat i161 * 4) 4 = some ([(.string s164), (.int .i64 i165), (.int .i64 i166), (.string s167)] : List Value) ∧
    (∀ h168 : AH, h168 = h124.alloc (.cells ([(.string (ByteArray.mk #[])), (.int .i64 0), (.int .i64 0), (.string (ByteArray.mk #[]))] : List Value) 39 false) →
    (List.length ([(.string s164), (.int .i64 i165), (.int .i64 i166), (.string s167)] : List Value) = 4) ∧ ∃ h169 : AH, stN h168 h124.next 0 ([(.string s164), (.int .i64 i165), (.int .i64 i166), (.string s167)] : List Value) = some h169 ∧
    (∃ s170 : ByteArray, ld1 h169 h124.next 0 = some (.string s170) ∧
    (∃ s171 : ByteArray, ld1 h169 h61.next 0 = some (.string s171) ∧
    (((((ByteArray.size s171 : Nat) : Int) : Int) < ((ByteArray.size s170 : Nat) : Int) → ∃ s172 : ByteArray, ld1 h169 h124.next 0 = some (.string s172) ∧
    (∃ s173 : ByteArray, ld1 h169 h61.next 0 = some (.string s173) ∧
    (∃ s174 : ByteArray, aSlice Try.prog h169 9 (.string s172) none (some (.int .i64 ((ByteArray.size s173 : Nat) : Int))) none = some (.string s174) ∧
    (∃ s175 : ByteArray, ld1 h169 h61.next 0 = some (.string s175) ∧
    ((s174 = s175 → ∃ s176 : ByteArray, ld1 h169 h124.next 0 = some (.string s176) ∧
    (∃ s177 : ByteArray, ld1 h169 h61.next 0 = some (.string s177) ∧
    (((0 : Int) ≤ ((ByteArray.size s177 : Nat) : Int)) ∧ ∃ c178 : UInt8, s176[Int.toNat ((ByteArray.size s177 : Nat) : Int)]? = some c178 ∧
    (((((c178.toNat : Nat) : Int) : Int) = 64 → ∃ s179 : ByteArray, ld1 h169 h61.next 0 = some (.string s179) ∧
    (Wf Try.prog K 15 [(.pointer p74), (.string s179)] h169 fun r180 h181 =>
    (∃ (p182 : Option Addr) (n183 c184 : Nat), r180 = (.slice p182 n183 c184) ∧
    (∃ s185 : ByteArray, ld1 h181 h124.next 0 = some (.string s185) ∧
    (Wf Try.prog K 15 [(.pointer p74), (.string s185)] h181 fun r186 h187 =>
    (∃ (p188 : Option Addr) (n189 c190 : Nat), r186 = (.slice p188 n189 c190) ∧
    (Wf Try.prog K 14 [(.slice p182 n183 c184), (.slice p188 n189 c190)] h187 fun r191 h192 =>
    (((r191 = (.bool true) ∧
    ((ld1 h169 h124.next 0 = some (.string s185)) ∧
    ((ld1 h181 h124.next 0 = some (.string s185)) ∧
    (∀ i193 : Int, i193 = IntKind.wrap .i64 (i161 + 1) → ∃ j125, j125 < k123 ∧ I122 true i193 j125 h192)))) ∨ (r191 = (.bool false) ∧
    ((ld1 h169 h124.next 0 = some (.string s185)) ∧
    ((ld1 h181 h124.next 0 = some (.string s185)) ∧
    (∀ i194 : Int, i194 = IntKind.wrap .i64 (i161 + 1) → ∃ j125, j125 < k123 ∧ I122 false i194 j125 h192))))))))))))) ∧
    (¬ (((c178.toNat : Nat) : Int) : Int) = 64 → ∀ i195 : Int, i195 = IntKind.wrap .i64 (i161 + 1) → ∃ j125, j125 < k123 ∧ I122 false i195 j125 h169))))) ∧
    (¬ s174 = s175 → ∀ i196 : Int, i196 = IntKind.wrap .i64 (i161 + 1) → ∃ j125, j125 < k123 ∧ I122 false i196 j125 h169)))))) ∧
    (¬ (((ByteArray.size s171 : Nat) : Int) : Int) < ((ByteArray.size s170 : Nat) : Int) → ∀ i197 : Int, i197 = IntKind.wrap .i64 (i161 + 1) → ∃ j125, j125 < k123 ∧ I122 false i197 j125 h169)))))))) ∧
    (¬ (i161 : Int) < ((n120 : Nat) : Int) → Q (.bool false) h124)))))) ∧
    (¬ s116 = (ByteArray.mk #[]) → ∀ i198 : Int, i198 = IntKind.wrap .i64 (i63 + 1) → ∃ j62, j62 < k60 ∧ I59 i198 j62 h114)))) ∧
    (¬ (i112 : Int) = 0 → ∀ i199 : Int, i199 = IntKind.wrap .i64 (i63 + 1) → ∃ j62, j62 < k60 ∧ I59 i199 j62 h114))))))))))))))) ∧
    (¬ (i63 : Int) < ((n57 : Nat) : Int) → ∃ s200 : ByteArray, ld1 h61 h.next 1 = some (.string s200) ∧
    (∃ i201 : Int, ld1 h61 h.next 3 = some (.int .i64 i201) ∧
    (Wf Try.prog K 11 [(.pointer p5), (.agg #[(.int .i64 3), (.string s200), (.string (ByteArray.mk #[])), (.int .i64 i201), (.slice none 0 0), (.slice none 0 0)])] h61 fun r202 h203 =>
    (∃ l204 : List Value, ∃ i205 : Int, r202 = (.tuple #[(.agg l204.toArray), (.int .i64 i205)]) ∧
    (∀ h206 : AH, h206 = h203.alloc (.cells (List.replicate 128 (.int .u8 0) : List Value) 34 false) →
    (List.length l204 = 128) ∧ ∃ h207 : AH, stN h206 h203.next 0 l204 = some h207 ∧
    (((i205 : Int) = 0 → ∃ i208 : Int, ld1 h207 h.next 3 = some (.int .i64 i208) ∧
    (((0 : Int) ≤ i208 → ∃ i209 : Int, ld1 h207 h.next 3 = some (.int .i64 i209) ∧
    (((i209 : Int) < 64 → Q (.bool true) h207) ∧
    (¬ (i209 : Int) < 64 → Q (.bool false) h207))) ∧
    (¬ (0 : Int) ≤ i208 → Q (.bool false) h207))) ∧
    (¬ (i205 : Int) = 0 → Q (.bool true) h207))))))))))))))) ∨ (r1 = (.bool false) ∧
    (Q (.bool false) h2))))) :
    Wf Try.prog K 6 [(.slice pa0 na0 ca0), (.agg #[(.int .i64 ia1_0), (.string sa1_1), (.string sa1_2), (.int .i64 ia1_3), (.slice pa1_4 na1_4 ca1_4), (.slice pa1_5 na1_5 ca1_5)])] h Q :=
  vcF_sound (hs := [(7, [(32, .int .i64 0)]), (15, [(68, .int .i64 0)]), (20, [(14, .string ⟨#[]⟩), (77, .int .i64 0)]), (29, [(19, .bool true), (133, .int .i64 0)])]) hk (Eq.mpr (by kernel_rfl) H)
end Go.Am
