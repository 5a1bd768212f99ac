/-
  WEAKEST CONDITIONS of some functions of this program, printed by a program.
-/
import Derived.Test.YtnkbkpajlikkaaaAmG
import Derived.Test.YtnkbkpajlikkaaaRows
set_option linter.unusedVariables false
set_option maxRecDepth 100000
namespace Go.Am
open Go.Proofs
theorem vc_model_New {K : Xs} (hk : K 8 = none)  (h : AH) (Q : Value → AH → Prop) (H :
    ∀ h0 : AH, h0 = h.alloc (.map [] 0) →
    ∀ h1 : AH, h1 = h0.alloc (.cells ([(.int .u64 1), (.slice none 0 0), (.map (some h.next)), (.int .u64 2), (.int .u64 0)] : List Value) 52 false) →
    Q (.pointer (some ⟨h0.next, 0, none⟩)) h1) :
    Wf Try.prog K 8 [] h Q :=
  vcF_sound (hs := []) hk (Eq.mpr (by kernel_rfl) H)
theorem vc_model_Model_Do {K : Xs} (hk : K 11 = none) (pa0 : Option Addr) (ia1_0 : Int) (sa1_1 : ByteArray) (sa1_2 : ByteArray) (ia1_3 : Int) (pa1_4 : Option Addr) (na1_4 ca1_4 : Nat) (pa1_5 : Option Addr) (na1_5 ca1_5 : Nat) (h : AH) (Q : Value → AH → Prop) (H :
    ∀ h0 : AH, h0 = h.alloc (.cells ([(.int .i64 ia1_0), (.string sa1_1), (.string sa1_2), (.int .i64 ia1_3), (.slice pa1_4 na1_4 ca1_4), (.slice pa1_5 na1_5 ca1_5)] : List Value) 32 false) →
    ∀ h1 : AH, h1 = h0.alloc (.cells (List.replicate 128 (.int .u8 0) : List Value) 34 false) →
    ∃ i2 : Int, ld1 h1 h.next 0 = some (.int .i64 i2) ∧
    (((i2 : Int) = 0 → derefP pa0 fun b3 o4 => (∃ i5 : Int, ∃ (p6 : Option Addr) (n7 c8 : Nat), ldN h1 b3 o4 2 = some ([(.int .u64 i5), (.slice p6 n7 c8)] : List Value) ∧
    (∃ s9 : ByteArray, ld1 h1 h.next 1 = some (.string s9) ∧
    (∃ i10 : Int, ld1 h1 h.next 3 = some (.int .i64 i10) ∧
    (Wf Try.prog K 18 [(.agg #[(.int .u64 i5), (.slice p6 n7 c8)]), (.string s9), (.int .i64 i10)] h1 fun r11 h12 =>
    (∃ i13 : Int, ∃ (p14 : Option Addr) (n15 c16 : Nat), ∃ i17 : Int, r11 = (.tuple #[(.agg #[(.int .u64 i13), (.slice p14 n15 c16)]), (.int .i64 i17)]) ∧
    (∀ h18 : AH, h18 = h12.alloc (.cells ([(.int .u64 0), (.slice none 0 0)] : List Value) 49 false) →
    (List.length ([(.int .u64 i13), (.slice p14 n15 c16)] : List Value) = 2) ∧ ∃ h19 : AH, stN h18 h12.next 0 ([(.int .u64 i13), (.slice p14 n15 c16)] : List Value) = some h19 ∧
    (∃ l20 : List Value, aBuild Try.prog 34 #[] = some (.agg l20.toArray) ∧
    (∃ i21 : Int, ∃ (p22 : Option Addr) (n23 c24 : Nat), ldN h19 h12.next 0 2 = some ([(.int .u64 i21), (.slice p22 n23 c24)] : List Value) ∧
    (Wf Try.prog K 19 [(.pointer pa0), (.agg #[(.int .u64 i21), (.slice p22 n23 c24)]), (.int .i64 i17)] h19 fun r25 h26 =>
    (∃ i27 : Int, r25 = (.int .i64 i27) ∧
    ((List.length l20 = 128) ∧ ∃ h28 : AH, stN h26 h0.next 0 l20 = some h28 ∧
    (∃ l29 : List Value, ldN h28 h0.next 0 128 = some l29 ∧
    (Q (.tuple #[(.agg l29.toArray), (.int .i64 i27)]) h28)))))))))))))) ∧
    (¬ (i2 : Int) = 0 → ((i2 : Int) = 1 → ∃ l30 : List Value, aBuild Try.prog 34 #[] = some (.agg l30.toArray) ∧
    (∃ s31 : ByteArray, ld1 h1 h.next 1 = some (.string s31) ∧
    (∃ i32 : Int, ld1 h1 h.next 3 = some (.int .i64 i32) ∧
    (∃ (p33 : Option Addr) (n34 c35 : Nat), ld1 h1 h.next 4 = some (.slice p33 n34 c35) ∧
    (Wf Try.prog K 20 [(.pointer pa0), (.string s31), (.int .i64 i32), (.slice p33 n34 c35)] h1 fun r36 h37 =>
    (∃ i38 : Int, r36 = (.int .i64 i38) ∧
    ((List.length l30 = 128) ∧ ∃ h39 : AH, stN h37 h0.next 0 l30 = some h39 ∧
    (∃ l40 : List Value, ldN h39 h0.next 0 128 = some l40 ∧
    (Q (.tuple #[(.agg l40.toArray), (.int .i64 i38)]) h39))))))))) ∧
    (¬ (i2 : Int) = 1 → ((i2 : Int) = 2 → ∃ l41 : List Value, aBuild Try.prog 34 #[] = some (.agg l41.toArray) ∧
    (∃ s42 : ByteArray, ld1 h1 h.next 1 = some (.string s42) ∧
    (∃ i43 : Int, ld1 h1 h.next 3 = some (.int .i64 i43) ∧
    (Wf Try.prog K 21 [(.pointer pa0), (.string s42), (.int .i64 i43)] h1 fun r44 h45 =>
    (∃ i46 : Int, r44 = (.int .i64 i46) ∧
    ((List.length l41 = 128) ∧ ∃ h47 : AH, stN h45 h0.next 0 l41 = some h47 ∧
    (∃ l48 : List Value, ldN h47 h0.next 0 128 = some l48 ∧
    (Q (.tuple #[(.agg l48.toArray), (.int .i64 i46)]) h47)))))))) ∧
    (¬ (i2 : Int) = 2 → ((i2 : Int) = 3 → ∃ s49 : ByteArray, ld1 h1 h.next 1 = some (.string s49) ∧
    (∃ i50 : Int, ld1 h1 h.next 3 = some (.int .i64 i50) ∧
    (Wf Try.prog K 22 [(.pointer pa0), (.string s49), (.int .i64 i50)] h1 fun r51 h52 =>
    (∃ l53 : List Value, ∃ i54 : Int, r51 = (.tuple #[(.agg l53.toArray), (.int .i64 i54)]) ∧
    ((List.length l53 = 128) ∧ ∃ h55 : AH, stN h52 h0.next 0 l53 = some h55 ∧
    (∃ l56 : List Value, ldN h55 h0.next 0 128 = some l56 ∧
    (Q (.tuple #[(.agg l56.toArray), (.int .i64 i54)]) h55))))))) ∧
    (¬ (i2 : Int) = 3 → ((i2 : Int) = 4 → derefP pa0 fun b57 o58 => (∃ i59 : Int, ∃ (p60 : Option Addr) (n61 c62 : Nat), ldN h1 b57 o58 2 = some ([(.int .u64 i59), (.slice p60 n61 c62)] : List Value) ∧
    (∃ s63 : ByteArray, ld1 h1 h.next 1 = some (.string s63) ∧
    (derefP pa0 fun b64 o65 => (∃ i66 : Int, ld1 h1 b64 (o65 + 3) = some (.int .u64 i66) ∧
    (Wf Try.prog K 23 [(.agg #[(.int .u64 i59), (.slice p60 n61 c62)]), (.string s63), (.int .u64 i66)] h1 fun r67 h68 =>
    (∃ i69 : Int, ∃ (p70 : Option Addr) (n71 c72 : Nat), ∃ i73 : Int, r67 = (.tuple #[(.agg #[(.int .u64 i69), (.slice p70 n71 c72)]), (.int .i64 i73)]) ∧
    (∀ h74 : AH, h74 = h68.alloc (.cells ([(.int .u64 0), (.slice none 0 0)] : List Value) 49 false) →
    (List.length ([(.int .u64 i69), (.slice p70 n71 c72)] : List Value) = 2) ∧ ∃ h75 : AH, stN h74 h68.next 0 ([(.int .u64 i69), (.slice p70 n71 c72)] : List Value) = some h75 ∧
    (((i73 : Int) = 0 → derefP pa0 fun b76 o77 => (∃ i78 : Int, ld1 h75 b76 (o77 + 3) = some (.int .u64 i78) ∧
    (∀ i79 : Int, i79 = IntKind.wrap .u64 (i78 + 1) → derefP pa0 fun b80 o81 => (∃ h82 : AH, st1 h75 b80 (o81 + 3) (.int .u64 i79) = some h82 ∧
    (∃ l83 : List Value, aBuild Try.prog 34 #[] = some (.agg l83.toArray) ∧
    (∃ i84 : Int, ∃ (p85 : Option Addr) (n86 c87 : Nat), ldN h82 h68.next 0 2 = some ([(.int .u64 i84), (.slice p85 n86 c87)] : List Value) ∧
    (Wf Try.prog K 19 [(.pointer pa0), (.agg #[(.int .u64 i84), (.slice p85 n86 c87)]), (.int .i64 i73)] h82 fun r88 h89 =>
    (∃ i90 : Int, r88 = (.int .i64 i90) ∧
    ((List.length l83 = 128) ∧ ∃ h91 : AH, stN h89 h0.next 0 l83 = some h91 ∧
    (∃ l92 : List Value, ldN h91 h0.next 0 128 = some l92 ∧
    (Q (.tuple #[(.agg l92.toArray), (.int .i64 i90)]) h91))))))))))) ∧
    (¬ (i73 : Int) = 0 → ∃ l93 : List Value, aBuild Try.prog 34 #[] = some (.agg l93.toArray) ∧
    (∃ i94 : Int, ∃ (p95 : Option Addr) (n96 c97 : Nat), ldN h75 h68.next 0 2 = some ([(.int .u64 i94), (.slice p95 n96 c97)] : List Value) ∧
    (Wf Try.prog K 19 [(.pointer pa0), (.agg #[(.int .u64 i94), (.slice p95 n96 c97)]), (.int .i64 i73)] h75 fun r98 h99 =>
    (∃ i100 : Int, r98 = (.int .i64 i100) ∧
    ((List.length l93 = 128) ∧ ∃ h101 : AH, stN h99 h0.next 0 l93 = some h101 ∧
    (∃ l102 : List Value, ldN h101 h0.next 0 128 = some l102 ∧
    (Q (.tuple #[(.agg l102.toArray), (.int .i64 i100)]) h101)))))))))))))))) ∧
    (¬ (i2 : Int) = 4 → ((i2 : Int) = 5 → derefP pa0 fun b103 o104 => (∃ i105 : Int, ∃ (p106 : Option Addr) (n107 c108 : Nat), ldN h1 b103 o104 2 = some ([(.int .u64 i105), (.slice p106 n107 c108)] : List Value) ∧
    (∃ s109 : ByteArray, ld1 h1 h.next 1 = some (.string s109) ∧
    (∃ s110 : ByteArray, ld1 h1 h.next 2 = some (.string s110) ∧
    (Wf Try.prog K 24 [(.agg #[(.int .u64 i105), (.slice p106 n107 c108)]), (.string s109), (.string s110)] h1 fun r111 h112 =>
    (∃ i113 : Int, ∃ (p114 : Option Addr) (n115 c116 : Nat), ∃ i117 : Int, r111 = (.tuple #[(.agg #[(.int .u64 i113), (.slice p114 n115 c116)]), (.int .i64 i117)]) ∧
    (∀ h118 : AH, h118 = h112.alloc (.cells ([(.int .u64 0), (.slice none 0 0)] : List Value) 49 false) →
    (List.length ([(.int .u64 i113), (.slice p114 n115 c116)] : List Value) = 2) ∧ ∃ h119 : AH, stN h118 h112.next 0 ([(.int .u64 i113), (.slice p114 n115 c116)] : List Value) = some h119 ∧
    (∃ l120 : List Value, aBuild Try.prog 34 #[] = some (.agg l120.toArray) ∧
    (∃ i121 : Int, ∃ (p122 : Option Addr) (n123 c124 : Nat), ldN h119 h112.next 0 2 = some ([(.int .u64 i121), (.slice p122 n123 c124)] : List Value) ∧
    (Wf Try.prog K 19 [(.pointer pa0), (.agg #[(.int .u64 i121), (.slice p122 n123 c124)]), (.int .i64 i117)] h119 fun r125 h126 =>
    (∃ i127 : Int, r125 = (.int .i64 i127) ∧
    ((List.length l120 = 128) ∧ ∃ h128 : AH, stN h126 h0.next 0 l120 = some h128 ∧
    (∃ l129 : List Value, ldN h128 h0.next 0 128 = some l129 ∧
    (Q (.tuple #[(.agg l129.toArray), (.int .i64 i127)]) h128)))))))))))))) ∧
    (¬ (i2 : Int) = 5 → ((i2 : Int) = 6 → derefP pa0 fun b130 o131 => (∃ i132 : Int, ∃ (p133 : Option Addr) (n134 c135 : Nat), ldN h1 b130 o131 2 = some ([(.int .u64 i132), (.slice p133 n134 c135)] : List Value) ∧
    (∃ s136 : ByteArray, ld1 h1 h.next 1 = some (.string s136) ∧
    (Wf Try.prog K 25 [(.agg #[(.int .u64 i132), (.slice p133 n134 c135)]), (.string s136)] h1 fun r137 h138 =>
    (∃ i139 : Int, ∃ (p140 : Option Addr) (n141 c142 : Nat), ∃ i143 : Int, r137 = (.tuple #[(.agg #[(.int .u64 i139), (.slice p140 n141 c142)]), (.int .i64 i143)]) ∧
    (∀ h144 : AH, h144 = h138.alloc (.cells ([(.int .u64 0), (.slice none 0 0)] : List Value) 49 false) →
    (List.length ([(.int .u64 i139), (.slice p140 n141 c142)] : List Value) = 2) ∧ ∃ h145 : AH, stN h144 h138.next 0 ([(.int .u64 i139), (.slice p140 n141 c142)] : List Value) = some h145 ∧
    (((i143 : Int) = 0 → ∃ i146 : Int, ∃ (p147 : Option Addr) (n148 c149 : Nat), ldN h145 h138.next 0 2 = some ([(.int .u64 i146), (.slice p147 n148 c149)] : List Value) ∧
    (derefP pa0 fun b150 o151 => ((List.length ([(.int .u64 i146), (.slice p147 n148 c149)] : List Value) = 2) ∧ ∃ h152 : AH, stN h145 b150 o151 ([(.int .u64 i146), (.slice p147 n148 c149)] : List Value) = some h152 ∧
    (∃ l153 : List Value, aBuild Try.prog 34 #[] = some (.agg l153.toArray) ∧
    ((List.length l153 = 128) ∧ ∃ h154 : AH, stN h152 h0.next 0 l153 = some h154 ∧
    (∃ l155 : List Value, ldN h154 h0.next 0 128 = some l155 ∧
    (Q (.tuple #[(.agg l155.toArray), (.int .i64 i143)]) h154))))))) ∧
    (¬ (i143 : Int) = 0 → ∃ l156 : List Value, aBuild Try.prog 34 #[] = some (.agg l156.toArray) ∧
    ((List.length l156 = 128) ∧ ∃ h157 : AH, stN h145 h0.next 0 l156 = some h157 ∧
    (∃ l158 : List Value, ldN h157 h0.next 0 128 = some l158 ∧
    (Q (.tuple #[(.agg l158.toArray), (.int .i64 i143)]) h157))))))))))) ∧
    (¬ (i2 : Int) = 6 → ((i2 : Int) = 7 → ∃ l159 : List Value, aBuild Try.prog 34 #[] = some (.agg l159.toArray) ∧
    (∃ s160 : ByteArray, ld1 h1 h.next 1 = some (.string s160) ∧
    (Wf Try.prog K 26 [(.pointer pa0), (.string s160)] h1 fun r161 h162 =>
    (∃ i163 : Int, r161 = (.int .i64 i163) ∧
    ((List.length l159 = 128) ∧ ∃ h164 : AH, stN h162 h0.next 0 l159 = some h164 ∧
    (∃ l165 : List Value, ldN h164 h0.next 0 128 = some l165 ∧
    (Q (.tuple #[(.agg l165.toArray), (.int .i64 i163)]) h164))))))) ∧
    (¬ (i2 : Int) = 7 → ((i2 : Int) = 8 → ∃ l166 : List Value, aBuild Try.prog 34 #[] = some (.agg l166.toArray) ∧
    (∃ s167 : ByteArray, ld1 h1 h.next 1 = some (.string s167) ∧
    (Wf Try.prog K 27 [(.pointer pa0), (.string s167)] h1 fun r168 h169 =>
    (∃ i170 : Int, r168 = (.int .i64 i170) ∧
    ((List.length l166 = 128) ∧ ∃ h171 : AH, stN h169 h0.next 0 l166 = some h171 ∧
    (∃ l172 : List Value, ldN h171 h0.next 0 128 = some l172 ∧
    (Q (.tuple #[(.agg l172.toArray), (.int .i64 i170)]) h171))))))) ∧
    (¬ (i2 : Int) = 8 → ((i2 : Int) = 9 → derefP pa0 fun b173 o174 => (∃ i175 : Int, ld1 h1 b173 (o174 + 3) = some (.int .u64 i175) ∧
    (∀ i176 : Int, i176 = IntKind.wrap .u64 (i175 + 1) → derefP pa0 fun b177 o178 => (∃ h179 : AH, st1 h1 b177 (o178 + 3) (.int .u64 i176) = some h179 ∧
    (∃ l180 : List Value, aBuild Try.prog 34 #[] = some (.agg l180.toArray) ∧
    ((List.length l180 = 128) ∧ ∃ h181 : AH, stN h179 h0.next 0 l180 = some h181 ∧
    (∃ l182 : List Value, ldN h181 h0.next 0 128 = some l182 ∧
    (Q (.tuple #[(.agg l182.toArray), (.int .i64 0)]) h181)))))))) ∧
    (¬ (i2 : Int) = 9 → ∃ l183 : List Value, aBuild Try.prog 34 #[] = some (.agg l183.toArray) ∧
    ((List.length l183 = 128) ∧ ∃ h184 : AH, stN h1 h0.next 0 l183 = some h184 ∧
    (∃ l185 : List Value, ldN h184 h0.next 0 128 = some l185 ∧
    (Q (.tuple #[(.agg l185.toArray), (.int .i64 0)]) h184))))))))))))))) :
    Wf Try.prog K 11 [(.pointer pa0), (.agg #[(.int .i64 ia1_0), (.string sa1_1), (.string sa1_2), (.int .i64 ia1_3), (.slice pa1_4 na1_4 ca1_4), (.slice pa1_5 na1_5 ca1_5)])] h Q :=
  vcF_sound (hs := []) hk (Eq.mpr (by kernel_rfl) H)
theorem vc_model_Model_grow {K : Xs} (hk : K 19 = none) (pa0 : Option Addr) (ia1_0 : Int) (pa1_1 : Option Addr) (na1_1 ca1_1 : Nat) (ia2 : Int) (h : AH) (Q : Value → AH → Prop) (H :
    ∀ h0 : AH, h0 = h.alloc (.cells ([(.int .u64 ia1_0), (.slice pa1_1 na1_1 ca1_1)] : List Value) 49 false) →
    ((ia2 : Int) = 0 → ∃ (p1 : Option Addr) (n2 c3 : Nat), ld1 h0 h.next 1 = some (.slice p1 n2 c3) ∧
    (derefP pa0 fun b4 o5 => (∃ i6 : Int, ld1 h0 b4 o5 = some (.int .u64 i6) ∧
    (Wf Try.prog K 38 [(.slice p1 n2 c3), (.int .u64 i6)] h0 fun r7 h8 =>
    (∃ i9 : Int, ∃ s10 : ByteArray, ∃ b11 : Bool, ∃ i12 : Int, ∃ i13 : Int, ∃ i14 : Int, ∃ i15 : Int, ∃ i16 : Int, ∃ i17 : Int, ∃ i18 : Int, ∃ (p19 : Option Addr) (n20 c21 : Nat), ((r7 = (.tuple #[(.agg #[(.int .u64 i9), (.string s10), (.bool b11), (.int .u64 i12), (.int .u64 i13), (.int .u64 i14), (.int .i64 i15), (.int .i64 i16), (.int .u64 i17), (.int .u32 i18), (.slice p19 n20 c21)]), (.bool true)]) ∧
    (∀ h22 : AH, h22 = h8.alloc (.cells ([(.int .u64 0), (.string (ByteArray.mk #[])), (.bool false), (.int .u64 0), (.int .u64 0), (.int .u64 0), (.int .i64 0), (.int .i64 0), (.int .u64 0), (.int .u32 0), (.slice none 0 0)] : List Value) 59 false) →
    (List.length ([(.int .u64 i9), (.string s10), (.bool b11), (.int .u64 i12), (.int .u64 i13), (.int .u64 i14), (.int .i64 i15), (.int .i64 i16), (.int .u64 i17), (.int .u32 i18), (.slice p19 n20 c21)] : List Value) = 11) ∧ ∃ h23 : AH, stN h22 h8.next 0 ([(.int .u64 i9), (.string s10), (.bool b11), (.int .u64 i12), (.int .u64 i13), (.int .u64 i14), (.int .i64 i15), (.int .i64 i16), (.int .u64 i17), (.int .u32 i18), (.slice p19 n20 c21)] : List Value) = some h23 ∧
    (∃ i24 : Int, ld1 h23 h8.next 4 = some (.int .u64 i24) ∧
    (((ld1 h23 h8.next 2 = some (.bool true) ∧
    (∃ i25 : Int, ld1 h23 h8.next 3 = some (.int .u64 i25) ∧
    (derefP pa0 fun b26 o27 => (∃ m28 : Option Nat, ld1 h23 b26 (o27 + 2) = some (.map m28) ∧
    (∃ i29 : Int, ld1 h23 h8.next 0 = some (.int .u64 i29) ∧
    (derefP pa0 fun b30 o31 => (∃ m32 : Option Nat, ld1 h23 b30 (o31 + 2) = some (.map m32) ∧
    (∃ l33 : List Value, aLookup Try.prog h23 50 (.map m32) (.int .u64 i25) false = some (.agg l33.toArray) ∧
    (∃ h34 : AH, aMapUpdate Try.prog h23 50 (.map m28) (.int .u64 i29) (.agg l33.toArray) = some h34 ∧
    (∃ i35 : Int, ∃ (p36 : Option Addr) (n37 c38 : Nat), ldN h34 h.next 0 2 = some ([(.int .u64 i35), (.slice p36 n37 c38)] : List Value) ∧
    (derefP pa0 fun b39 o40 => ((List.length ([(.int .u64 i35), (.slice p36 n37 c38)] : List Value) = 2) ∧ ∃ h41 : AH, stN h34 b39 o40 ([(.int .u64 i35), (.slice p36 n37 c38)] : List Value) = some h41 ∧
    (Q (.int .i64 0) h41))))))))))))) ∨ (ld1 h23 h8.next 2 = some (.bool false) ∧
    (derefP pa0 fun b42 o43 => (∃ m44 : Option Nat, ld1 h23 b42 (o43 + 2) = some (.map m44) ∧
    (∃ i45 : Int, ld1 h23 h8.next 0 = some (.int .u64 i45) ∧
    (derefP pa0 fun b46 o47 => (∃ m48 : Option Nat, ld1 h23 b46 (o47 + 2) = some (.map m48) ∧
    (∃ l49 : List Value, aLookup Try.prog h23 50 (.map m48) (.int .u64 i24) false = some (.agg l49.toArray) ∧
    (∃ h50 : AH, aMapUpdate Try.prog h23 50 (.map m44) (.int .u64 i45) (.agg l49.toArray) = some h50 ∧
    (∃ i51 : Int, ∃ (p52 : Option Addr) (n53 c54 : Nat), ldN h50 h.next 0 2 = some ([(.int .u64 i51), (.slice p52 n53 c54)] : List Value) ∧
    (derefP pa0 fun b55 o56 => ((List.length ([(.int .u64 i51), (.slice p52 n53 c54)] : List Value) = 2) ∧ ∃ h57 : AH, stN h50 b55 o56 ([(.int .u64 i51), (.slice p52 n53 c54)] : List Value) = some h57 ∧
    (Q (.int .i64 0) h57))))))))))))))))) ∨ (r7 = (.tuple #[(.agg #[(.int .u64 i9), (.string s10), (.bool b11), (.int .u64 i12), (.int .u64 i13), (.int .u64 i14), (.int .i64 i15), (.int .i64 i16), (.int .u64 i17), (.int .u32 i18), (.slice p19 n20 c21)]), (.bool false)]) ∧
    (∀ h58 : AH, h58 = h8.alloc (.cells ([(.int .u64 0), (.string (ByteArray.mk #[])), (.bool false), (.int .u64 0), (.int .u64 0), (.int .u64 0), (.int .i64 0), (.int .i64 0), (.int .u64 0), (.int .u32 0), (.slice none 0 0)] : List Value) 59 false) →
    (List.length ([(.int .u64 i9), (.string s10), (.bool b11), (.int .u64 i12), (.int .u64 i13), (.int .u64 i14), (.int .i64 i15), (.int .i64 i16), (.int .u64 i17), (.int .u32 i18), (.slice p19 n20 c21)] : List Value) = 11) ∧ ∃ h59 : AH, stN h58 h8.next 0 ([(.int .u64 i9), (.string s10), (.bool b11), (.int .u64 i12), (.int .u64 i13), (.int .u64 i14), (.int .i64 i15), (.int .i64 i16), (.int .u64 i17), (.int .u32 i18), (.slice p19 n20 c21)] : List Value) = some h59 ∧
    (∃ i60 : Int, ld1 h59 h8.next 4 = some (.int .u64 i60) ∧
    (((ld1 h59 h8.next 2 = some (.bool true) ∧
    (∃ i61 : Int, ld1 h59 h8.next 3 = some (.int .u64 i61) ∧
    (derefP pa0 fun b62 o63 => (∃ m64 : Option Nat, ld1 h59 b62 (o63 + 2) = some (.map m64) ∧
    (∃ i65 : Int, ld1 h59 h8.next 0 = some (.int .u64 i65) ∧
    (derefP pa0 fun b66 o67 => (∃ m68 : Option Nat, ld1 h59 b66 (o67 + 2) = some (.map m68) ∧
    (∃ l69 : List Value, aLookup Try.prog h59 50 (.map m68) (.int .u64 i61) false = some (.agg l69.toArray) ∧
    (∃ h70 : AH, aMapUpdate Try.prog h59 50 (.map m64) (.int .u64 i65) (.agg l69.toArray) = some h70 ∧
    (∃ i71 : Int, ∃ (p72 : Option Addr) (n73 c74 : Nat), ldN h70 h.next 0 2 = some ([(.int .u64 i71), (.slice p72 n73 c74)] : List Value) ∧
    (derefP pa0 fun b75 o76 => ((List.length ([(.int .u64 i71), (.slice p72 n73 c74)] : List Value) = 2) ∧ ∃ h77 : AH, stN h70 b75 o76 ([(.int .u64 i71), (.slice p72 n73 c74)] : List Value) = some h77 ∧
    (Q (.int .i64 0) h77))))))))))))) ∨ (ld1 h59 h8.next 2 = some (.bool false) ∧
    (derefP pa0 fun b78 o79 => (∃ m80 : Option Nat, ld1 h59 b78 (o79 + 2) = some (.map m80) ∧
    (∃ i81 : Int, ld1 h59 h8.next 0 = some (.int .u64 i81) ∧
    (derefP pa0 fun b82 o83 => (∃ m84 : Option Nat, ld1 h59 b82 (o83 + 2) = some (.map m84) ∧
    (∃ l85 : List Value, aLookup Try.prog h59 50 (.map m84) (.int .u64 i60) false = some (.agg l85.toArray) ∧
    (∃ h86 : AH, aMapUpdate Try.prog h59 50 (.map m80) (.int .u64 i81) (.agg l85.toArray) = some h86 ∧
    (∃ i87 : Int, ∃ (p88 : Option Addr) (n89 c90 : Nat), ldN h86 h.next 0 2 = some ([(.int .u64 i87), (.slice p88 n89 c90)] : List Value) ∧
    (derefP pa0 fun b91 o92 => ((List.length ([(.int .u64 i87), (.slice p88 n89 c90)] : List Value) = 2) ∧ ∃ h93 : AH, stN h86 b91 o92 ([(.int .u64 i87), (.slice p88 n89 c90)] : List Value) = some h93 ∧
    (Q (.int .i64 0) h93))))))))))))))))))))))) ∧
    (¬ (ia2 : Int) = 0 → Q (.int .i64 ia2) h0)) :
    Wf Try.prog K 19 [(.pointer pa0), (.agg #[(.int .u64 ia1_0), (.slice pa1_1 na1_1 ca1_1)]), (.int .i64 ia2)] h Q :=
  vcF_sound (hs := []) hk (Eq.mpr (by kernel_rfl) H)
theorem vc_model_Model_find {K : Xs} (hk : K 41 = none) (pa0 : Option Addr) (sa1 : ByteArray) (ia2 : Int) (h : AH) (Q : Value → AH → Prop) (H :
    ∀ h0 : AH, h0 = h.alloc (.cells ([(.int .u64 0), (.string (ByteArray.mk #[])), (.bool false), (.int .u64 0), (.int .u64 0), (.int .u64 0), (.int .i64 0), (.int .i64 0), (.int .u64 0), (.int .u32 0), (.slice none 0 0)] : List Value) 59 false) →
    derefP pa0 fun b1 o2 => (∃ (p3 : Option Addr) (n4 c5 : Nat), ld1 h0 b1 (o2 + 1) = some (.slice p3 n4 c5) ∧
    (Wf Try.prog K 30 [(.slice p3 n4 c5), (.string sa1)] h0 fun r6 h7 =>
    (∃ i8 : Int, ∃ s9 : ByteArray, ∃ b10 : Bool, ∃ i11 : Int, ∃ i12 : Int, ∃ i13 : Int, ∃ i14 : Int, ∃ i15 : Int, ∃ i16 : Int, ∃ i17 : Int, ∃ (p18 : Option Addr) (n19 c20 : Nat), ∃ i21 : Int, r6 = (.tuple #[(.agg #[(.int .u64 i8), (.string s9), (.bool b10), (.int .u64 i11), (.int .u64 i12), (.int .u64 i13), (.int .i64 i14), (.int .i64 i15), (.int .u64 i16), (.int .u32 i17), (.slice p18 n19 c20)]), (.int .i64 i21)]) ∧
    (∀ h22 : AH, h22 = h7.alloc (.cells ([(.int .u64 0), (.string (ByteArray.mk #[])), (.bool false), (.int .u64 0), (.int .u64 0), (.int .u64 0), (.int .i64 0), (.int .i64 0), (.int .u64 0), (.int .u32 0), (.slice none 0 0)] : List Value) 59 false) →
    (List.length ([(.int .u64 i8), (.string s9), (.bool b10), (.int .u64 i11), (.int .u64 i12), (.int .u64 i13), (.int .i64 i14), (.int .i64 i15), (.int .u64 i16), (.int .u32 i17), (.slice p18 n19 c20)] : List Value) = 11) ∧ ∃ h23 : AH, stN h22 h7.next 0 ([(.int .u64 i8), (.string s9), (.bool b10), (.int .u64 i11), (.int .u64 i12), (.int .u64 i13), (.int .i64 i14), (.int .i64 i15), (.int .u64 i16), (.int .u32 i17), (.slice p18 n19 c20)] : List Value) = some h23 ∧
    (((i21 : Int) = 141 → (List.length ([(.int .u64 0), (.string (ByteArray.mk #[])), (.bool false), (.int .u64 0), (.int .u64 0), (.int .u64 0), (.int .i64 0), (.int .i64 0), (.int .u64 0), (.int .u32 0), (.slice none 0 0)] : List Value) = 11) ∧ ∃ h24 : AH, stN h23 h.next 0 ([(.int .u64 0), (.string (ByteArray.mk #[])), (.bool false), (.int .u64 0), (.int .u64 0), (.int .u64 0), (.int .i64 0), (.int .i64 0), (.int .u64 0), (.int .u32 0), (.slice none 0 0)] : List Value) = some h24 ∧
    (∃ i25 : Int, ∃ s26 : ByteArray, ∃ b27 : Bool, ∃ i28 : Int, ∃ i29 : Int, ∃ i30 : Int, ∃ i31 : Int, ∃ i32 : Int, ∃ i33 : Int, ∃ i34 : Int, ∃ (p35 : Option Addr) (n36 c37 : Nat), ldN h24 h.next 0 11 = some ([(.int .u64 i25), (.string s26), (.bool b27), (.int .u64 i28), (.int .u64 i29), (.int .u64 i30), (.int .i64 i31), (.int .i64 i32), (.int .u64 i33), (.int .u32 i34), (.slice p35 n36 c37)] : List Value) ∧
    (Q (.tuple #[(.agg #[(.int .u64 i25), (.string s26), (.bool b27), (.int .u64 i28), (.int .u64 i29), (.int .u64 i30), (.int .i64 i31), (.int .i64 i32), (.int .u64 i33), (.int .u32 i34), (.slice p35 n36 c37)]), (.int .i64 i21)]) h24))) ∧
    (¬ (i21 : Int) = 141 → ((i21 : Int) = 0 → ((ia2 : Int) < 0 → (List.length ([(.int .u64 0), (.string (ByteArray.mk #[])), (.bool false), (.int .u64 0), (.int .u64 0), (.int .u64 0), (.int .i64 0), (.int .i64 0), (.int .u64 0), (.int .u32 0), (.slice none 0 0)] : List Value) = 11) ∧ ∃ h38 : AH, stN h23 h.next 0 ([(.int .u64 0), (.string (ByteArray.mk #[])), (.bool false), (.int .u64 0), (.int .u64 0), (.int .u64 0), (.int .i64 0), (.int .i64 0), (.int .u64 0), (.int .u32 0), (.slice none 0 0)] : List Value) = some h38 ∧
    (∃ i39 : Int, ∃ s40 : ByteArray, ∃ b41 : Bool, ∃ i42 : Int, ∃ i43 : Int, ∃ i44 : Int, ∃ i45 : Int, ∃ i46 : Int, ∃ i47 : Int, ∃ i48 : Int, ∃ (p49 : Option Addr) (n50 c51 : Nat), ldN h38 h.next 0 11 = some ([(.int .u64 i39), (.string s40), (.bool b41), (.int .u64 i42), (.int .u64 i43), (.int .u64 i44), (.int .i64 i45), (.int .i64 i46), (.int .u64 i47), (.int .u32 i48), (.slice p49 n50 c51)] : List Value) ∧
    (Q (.tuple #[(.agg #[(.int .u64 i39), (.string s40), (.bool b41), (.int .u64 i42), (.int .u64 i43), (.int .u64 i44), (.int .i64 i45), (.int .i64 i46), (.int .u64 i47), (.int .u32 i48), (.slice p49 n50 c51)]), (.int .i64 176)]) h38))) ∧
    (¬ (ia2 : Int) < 0 → ∃ i52 : Int, ld1 h23 h7.next 6 = some (.int .i64 i52) ∧
    (((i52 : Int) ≤ ia2 → (List.length ([(.int .u64 0), (.string (ByteArray.mk #[])), (.bool false), (.int .u64 0), (.int .u64 0), (.int .u64 0), (.int .i64 0), (.int .i64 0), (.int .u64 0), (.int .u32 0), (.slice none 0 0)] : List Value) = 11) ∧ ∃ h53 : AH, stN h23 h.next 0 ([(.int .u64 0), (.string (ByteArray.mk #[])), (.bool false), (.int .u64 0), (.int .u64 0), (.int .u64 0), (.int .i64 0), (.int .i64 0), (.int .u64 0), (.int .u32 0), (.slice none 0 0)] : List Value) = some h53 ∧
    (∃ i54 : Int, ∃ s55 : ByteArray, ∃ b56 : Bool, ∃ i57 : Int, ∃ i58 : Int, ∃ i59 : Int, ∃ i60 : Int, ∃ i61 : Int, ∃ i62 : Int, ∃ i63 : Int, ∃ (p64 : Option Addr) (n65 c66 : Nat), ldN h53 h.next 0 11 = some ([(.int .u64 i54), (.string s55), (.bool b56), (.int .u64 i57), (.int .u64 i58), (.int .u64 i59), (.int .i64 i60), (.int .i64 i61), (.int .u64 i62), (.int .u32 i63), (.slice p64 n65 c66)] : List Value) ∧
    (Q (.tuple #[(.agg #[(.int .u64 i54), (.string s55), (.bool b56), (.int .u64 i57), (.int .u64 i58), (.int .u64 i59), (.int .i64 i60), (.int .i64 i61), (.int .u64 i62), (.int .u32 i63), (.slice p64 n65 c66)]), (.int .i64 176)]) h53))) ∧
    (¬ (i52 : Int) ≤ ia2 → ∃ i67 : Int, ∃ s68 : ByteArray, ∃ b69 : Bool, ∃ i70 : Int, ∃ i71 : Int, ∃ i72 : Int, ∃ i73 : Int, ∃ i74 : Int, ∃ i75 : Int, ∃ i76 : Int, ∃ (p77 : Option Addr) (n78 c79 : Nat), ldN h23 h7.next 0 11 = some ([(.int .u64 i67), (.string s68), (.bool b69), (.int .u64 i70), (.int .u64 i71), (.int .u64 i72), (.int .i64 i73), (.int .i64 i74), (.int .u64 i75), (.int .u32 i76), (.slice p77 n78 c79)] : List Value) ∧
    ((List.length ([(.int .u64 i67), (.string s68), (.bool b69), (.int .u64 i70), (.int .u64 i71), (.int .u64 i72), (.int .i64 i73), (.int .i64 i74), (.int .u64 i75), (.int .u32 i76), (.slice p77 n78 c79)] : List Value) = 11) ∧ ∃ h80 : AH, stN h23 h.next 0 ([(.int .u64 i67), (.string s68), (.bool b69), (.int .u64 i70), (.int .u64 i71), (.int .u64 i72), (.int .i64 i73), (.int .i64 i74), (.int .u64 i75), (.int .u32 i76), (.slice p77 n78 c79)] : List Value) = some h80 ∧
    (∃ i81 : Int, ∃ s82 : ByteArray, ∃ b83 : Bool, ∃ i84 : Int, ∃ i85 : Int, ∃ i86 : Int, ∃ i87 : Int, ∃ i88 : Int, ∃ i89 : Int, ∃ i90 : Int, ∃ (p91 : Option Addr) (n92 c93 : Nat), ldN h80 h.next 0 11 = some ([(.int .u64 i81), (.string s82), (.bool b83), (.int .u64 i84), (.int .u64 i85), (.int .u64 i86), (.int .i64 i87), (.int .i64 i88), (.int .u64 i89), (.int .u32 i90), (.slice p91 n92 c93)] : List Value) ∧
    (Q (.tuple #[(.agg #[(.int .u64 i81), (.string s82), (.bool b83), (.int .u64 i84), (.int .u64 i85), (.int .u64 i86), (.int .i64 i87), (.int .i64 i88), (.int .u64 i89), (.int .u32 i90), (.slice p91 n92 c93)]), (.int .i64 0)]) h80))))))) ∧
    (¬ (i21 : Int) = 0 → (List.length ([(.int .u64 0), (.string (ByteArray.mk #[])), (.bool false), (.int .u64 0), (.int .u64 0), (.int .u64 0), (.int .i64 0), (.int .i64 0), (.int .u64 0), (.int .u32 0), (.slice none 0 0)] : List Value) = 11) ∧ ∃ h94 : AH, stN h23 h.next 0 ([(.int .u64 0), (.string (ByteArray.mk #[])), (.bool false), (.int .u64 0), (.int .u64 0), (.int .u64 0), (.int .i64 0), (.int .i64 0), (.int .u64 0), (.int .u32 0), (.slice none 0 0)] : List Value) = some h94 ∧
    (∃ i95 : Int, ∃ s96 : ByteArray, ∃ b97 : Bool, ∃ i98 : Int, ∃ i99 : Int, ∃ i100 : Int, ∃ i101 : Int, ∃ i102 : Int, ∃ i103 : Int, ∃ i104 : Int, ∃ (p105 : Option Addr) (n106 c107 : Nat), ldN h94 h.next 0 11 = some ([(.int .u64 i95), (.string s96), (.bool b97), (.int .u64 i98), (.int .u64 i99), (.int .u64 i100), (.int .i64 i101), (.int .i64 i102), (.int .u64 i103), (.int .u32 i104), (.slice p105 n106 c107)] : List Value) ∧
    (Q (.tuple #[(.agg #[(.int .u64 i95), (.string s96), (.bool b97), (.int .u64 i98), (.int .u64 i99), (.int .u64 i100), (.int .i64 i101), (.int .i64 i102), (.int .u64 i103), (.int .u32 i104), (.slice p105 n106 c107)]), (.int .i64 172)]) h94)))))))))) :
    Wf Try.prog K 41 [(.pointer pa0), (.string sa1), (.int .i64 ia2)] h Q :=
  vcF_sound (hs := []) hk (Eq.mpr (by kernel_rfl) H)
theorem vc_model_Model_volume {K : Xs} (hk : K 39 = none) (pa0 : Option Addr) (sa1 : ByteArray) (ia2 : Int) (h : AH) (Q : Value → AH → Prop) (H :
    ∀ h0 : AH, h0 = h.alloc (.cells ([(.int .u64 0), (.string (ByteArray.mk #[])), (.bool false), (.int .u64 0), (.int .u64 0), (.int .u64 0), (.int .i64 0), (.int .i64 0), (.int .u64 0), (.int .u32 0), (.slice none 0 0)] : List Value) 59 false) →
    Wf Try.prog K 52 [(.string sa1)] h0 fun r1 h2 =>
    (∃ s3 : ByteArray, ∃ s4 : ByteArray, ∃ i5 : Int, r1 = (.tuple #[(.string s3), (.string s4), (.int .i64 i5)]) ∧
    (((i5 : Int) = 0 → (s4 = (ByteArray.mk #[]) → Wf Try.prog K 41 [(.pointer pa0), (.string sa1), (.int .i64 ia2)] h2 fun r6 h7 =>
    (∃ i8 : Int, ∃ s9 : ByteArray, ∃ b10 : Bool, ∃ i11 : Int, ∃ i12 : Int, ∃ i13 : Int, ∃ i14 : Int, ∃ i15 : Int, ∃ i16 : Int, ∃ i17 : Int, ∃ (p18 : Option Addr) (n19 c20 : Nat), ∃ i21 : Int, r6 = (.tuple #[(.agg #[(.int .u64 i8), (.string s9), (.bool b10), (.int .u64 i11), (.int .u64 i12), (.int .u64 i13), (.int .i64 i14), (.int .i64 i15), (.int .u64 i16), (.int .u32 i17), (.slice p18 n19 c20)]), (.int .i64 i21)]) ∧
    ((List.length ([(.int .u64 i8), (.string s9), (.bool b10), (.int .u64 i11), (.int .u64 i12), (.int .u64 i13), (.int .i64 i14), (.int .i64 i15), (.int .u64 i16), (.int .u32 i17), (.slice p18 n19 c20)] : List Value) = 11) ∧ ∃ h22 : AH, stN h7 h.next 0 ([(.int .u64 i8), (.string s9), (.bool b10), (.int .u64 i11), (.int .u64 i12), (.int .u64 i13), (.int .i64 i14), (.int .i64 i15), (.int .u64 i16), (.int .u32 i17), (.slice p18 n19 c20)] : List Value) = some h22 ∧
    (∃ i23 : Int, ∃ s24 : ByteArray, ∃ b25 : Bool, ∃ i26 : Int, ∃ i27 : Int, ∃ i28 : Int, ∃ i29 : Int, ∃ i30 : Int, ∃ i31 : Int, ∃ i32 : Int, ∃ (p33 : Option Addr) (n34 c35 : Nat), ldN h22 h.next 0 11 = some ([(.int .u64 i23), (.string s24), (.bool b25), (.int .u64 i26), (.int .u64 i27), (.int .u64 i28), (.int .i64 i29), (.int .i64 i30), (.int .u64 i31), (.int .u32 i32), (.slice p33 n34 c35)] : List Value) ∧
    (Q (.tuple #[(.agg #[(.int .u64 i23), (.string s24), (.bool b25), (.int .u64 i26), (.int .u64 i27), (.int .u64 i28), (.int .i64 i29), (.int .i64 i30), (.int .u64 i31), (.int .u32 i32), (.slice p33 n34 c35)]), (.int .i64 i21)]) h22))))) ∧
    (¬ s4 = (ByteArray.mk #[]) → (List.length ([(.int .u64 0), (.string (ByteArray.mk #[])), (.bool false), (.int .u64 0), (.int .u64 0), (.int .u64 0), (.int .i64 0), (.int .i64 0), (.int .u64 0), (.int .u32 0), (.slice none 0 0)] : List Value) = 11) ∧ ∃ h36 : AH, stN h2 h.next 0 ([(.int .u64 0), (.string (ByteArray.mk #[])), (.bool false), (.int .u64 0), (.int .u64 0), (.int .u64 0), (.int .i64 0), (.int .i64 0), (.int .u64 0), (.int .u32 0), (.slice none 0 0)] : List Value) = some h36 ∧
    (∃ i37 : Int, ∃ s38 : ByteArray, ∃ b39 : Bool, ∃ i40 : Int, ∃ i41 : Int, ∃ i42 : Int, ∃ i43 : Int, ∃ i44 : Int, ∃ i45 : Int, ∃ i46 : Int, ∃ (p47 : Option Addr) (n48 c49 : Nat), ldN h36 h.next 0 11 = some ([(.int .u64 i37), (.string s38), (.bool b39), (.int .u64 i40), (.int .u64 i41), (.int .u64 i42), (.int .i64 i43), (.int .i64 i44), (.int .u64 i45), (.int .u32 i46), (.slice p47 n48 c49)] : List Value) ∧
    (Q (.tuple #[(.agg #[(.int .u64 i37), (.string s38), (.bool b39), (.int .u64 i40), (.int .u64 i41), (.int .u64 i42), (.int .i64 i43), (.int .i64 i44), (.int .u64 i45), (.int .u32 i46), (.slice p47 n48 c49)]), (.int .i64 141)]) h36)))) ∧
    (¬ (i5 : Int) = 0 → (List.length ([(.int .u64 0), (.string (ByteArray.mk #[])), (.bool false), (.int .u64 0), (.int .u64 0), (.int .u64 0), (.int .i64 0), (.int .i64 0), (.int .u64 0), (.int .u32 0), (.slice none 0 0)] : List Value) = 11) ∧ ∃ h50 : AH, stN h2 h.next 0 ([(.int .u64 0), (.string (ByteArray.mk #[])), (.bool false), (.int .u64 0), (.int .u64 0), (.int .u64 0), (.int .i64 0), (.int .i64 0), (.int .u64 0), (.int .u32 0), (.slice none 0 0)] : List Value) = some h50 ∧
    (∃ i51 : Int, ∃ s52 : ByteArray, ∃ b53 : Bool, ∃ i54 : Int, ∃ i55 : Int, ∃ i56 : Int, ∃ i57 : Int, ∃ i58 : Int, ∃ i59 : Int, ∃ i60 : Int, ∃ (p61 : Option Addr) (n62 c63 : Nat), ldN h50 h.next 0 11 = some ([(.int .u64 i51), (.string s52), (.bool b53), (.int .u64 i54), (.int .u64 i55), (.int .u64 i56), (.int .i64 i57), (.int .i64 i58), (.int .u64 i59), (.int .u32 i60), (.slice p61 n62 c63)] : List Value) ∧
    (Q (.tuple #[(.agg #[(.int .u64 i51), (.string s52), (.bool b53), (.int .u64 i54), (.int .u64 i55), (.int .u64 i56), (.int .i64 i57), (.int .i64 i58), (.int .u64 i59), (.int .u32 i60), (.slice p61 n62 c63)]), (.int .i64 141)]) h50)))))) :
    Wf Try.prog K 39 [(.pointer pa0), (.string sa1), (.int .i64 ia2)] h Q :=
  vcF_sound (hs := []) hk (Eq.mpr (by kernel_rfl) H)
theorem vc_model_Model_write {K : Xs} (hk : K 20 = none) (pa0 : Option Addr) (sa1 : ByteArray) (ia2 : Int) (pa3 : Option Addr) (na3 ca3 : Nat) (h : AH) (Q : Value → AH → Prop) (H :
    Wf Try.prog K 39 [(.pointer pa0), (.string sa1), (.int .i64 ia2)] h fun r0 h1 =>
    (∃ i2 : Int, ∃ s3 : ByteArray, ∃ b4 : Bool, ∃ i5 : Int, ∃ i6 : Int, ∃ i7 : Int, ∃ i8 : Int, ∃ i9 : Int, ∃ i10 : Int, ∃ i11 : Int, ∃ (p12 : Option Addr) (n13 c14 : Nat), ∃ i15 : Int, r0 = (.tuple #[(.agg #[(.int .u64 i2), (.string s3), (.bool b4), (.int .u64 i5), (.int .u64 i6), (.int .u64 i7), (.int .i64 i8), (.int .i64 i9), (.int .u64 i10), (.int .u32 i11), (.slice p12 n13 c14)]), (.int .i64 i15)]) ∧
    (∀ h16 : AH, h16 = h1.alloc (.cells ([(.int .u64 0), (.string (ByteArray.mk #[])), (.bool false), (.int .u64 0), (.int .u64 0), (.int .u64 0), (.int .i64 0), (.int .i64 0), (.int .u64 0), (.int .u32 0), (.slice none 0 0)] : List Value) 59 false) →
    (List.length ([(.int .u64 i2), (.string s3), (.bool b4), (.int .u64 i5), (.int .u64 i6), (.int .u64 i7), (.int .i64 i8), (.int .i64 i9), (.int .u64 i10), (.int .u32 i11), (.slice p12 n13 c14)] : List Value) = 11) ∧ ∃ h17 : AH, stN h16 h1.next 0 ([(.int .u64 i2), (.string s3), (.bool b4), (.int .u64 i5), (.int .u64 i6), (.int .u64 i7), (.int .i64 i8), (.int .i64 i9), (.int .u64 i10), (.int .u32 i11), (.slice p12 n13 c14)] : List Value) = some h17 ∧
    (((i15 : Int) = 0 → ((128 : Int) < ((na3 : Nat) : Int) → Q (.int .i64 92) h17) ∧
    (¬ (128 : Int) < ((na3 : Nat) : Int) → derefP pa0 fun b18 o19 => (∃ i20 : Int, ld1 h17 b18 (o19 + 4) = some (.int .u64 i20) ∧
    (∀ i21 : Int, i21 = IntKind.wrap .u64 (i20 + 1) → derefP pa0 fun b22 o23 => (∃ h24 : AH, st1 h17 b22 (o23 + 4) (.int .u64 i21) = some h24 ∧
    (derefP pa0 fun b25 o26 => (∃ i27 : Int, ld1 h24 b25 (o26 + 4) = some (.int .u64 i27) ∧
    (∃ l28 : List Value, aBuild Try.prog 64 #[(1, (.int .u64 i27))] = some (.agg l28.toArray) ∧
    (∀ h29 : AH, h29 = h24.alloc (.cells (List.replicate 128 (.int .u8 0) ++ [(.int .u64 0)] : List Value) 64 false) →
    (List.length l28 = 129) ∧ ∃ h30 : AH, stN h29 h24.next 0 l28 = some h30 ∧
    (∃ (p31 : Option Addr) (n32 c33 : Nat), aSlice Try.prog h30 34 (.pointer (some ⟨h24.next, 0, none⟩)) none none none = some (.slice p31 n32 c33) ∧
    (∃ (i34 : Int) (h35 : AH), aBuiltin Try.prog h30 .copy #[29, 29] [(.slice p31 n32 c33), (.slice pa3 na3 ca3)] = some (.int .i64 i34, h35) ∧
    (∃ i36 : Int, ld1 h35 h1.next 0 = some (.int .u64 i36) ∧
    (∃ l37 : List Value, ldN h35 h24.next 0 129 = some l37 ∧
    (Wf Try.prog K 40 [(.pointer pa0), (.int .u64 i36), (.int .i64 ia2), (.agg l37.toArray)] h35 fun r38 h39 =>
    (Q (.int .i64 0) h39))))))))))))))) ∧
    (¬ (i15 : Int) = 0 → Q (.int .i64 i15) h17))))) :
    Wf Try.prog K 20 [(.pointer pa0), (.string sa1), (.int .i64 ia2), (.slice pa3 na3 ca3)] h Q :=
  vcF_sound (hs := []) hk (Eq.mpr (by kernel_rfl) H)
theorem vc_model_Model_trim {K : Xs} (hk : K 21 = none) (pa0 : Option Addr) (sa1 : ByteArray) (ia2 : Int) (h : AH) (Q : Value → AH → Prop) (H :
    Wf Try.prog K 39 [(.pointer pa0), (.string sa1), (.int .i64 ia2)] h fun r0 h1 =>
    (∃ i2 : Int, ∃ s3 : ByteArray, ∃ b4 : Bool, ∃ i5 : Int, ∃ i6 : Int, ∃ i7 : Int, ∃ i8 : Int, ∃ i9 : Int, ∃ i10 : Int, ∃ i11 : Int, ∃ (p12 : Option Addr) (n13 c14 : Nat), ∃ i15 : Int, r0 = (.tuple #[(.agg #[(.int .u64 i2), (.string s3), (.bool b4), (.int .u64 i5), (.int .u64 i6), (.int .u64 i7), (.int .i64 i8), (.int .i64 i9), (.int .u64 i10), (.int .u32 i11), (.slice p12 n13 c14)]), (.int .i64 i15)]) ∧
    (∀ h16 : AH, h16 = h1.alloc (.cells ([(.int .u64 0), (.string (ByteArray.mk #[])), (.bool false), (.int .u64 0), (.int .u64 0), (.int .u64 0), (.int .i64 0), (.int .i64 0), (.int .u64 0), (.int .u32 0), (.slice none 0 0)] : List Value) 59 false) →
    (List.length ([(.int .u64 i2), (.string s3), (.bool b4), (.int .u64 i5), (.int .u64 i6), (.int .u64 i7), (.int .i64 i8), (.int .i64 i9), (.int .u64 i10), (.int .u32 i11), (.slice p12 n13 c14)] : List Value) = 11) ∧ ∃ h17 : AH, stN h16 h1.next 0 ([(.int .u64 i2), (.string s3), (.bool b4), (.int .u64 i5), (.int .u64 i6), (.int .u64 i7), (.int .i64 i8), (.int .i64 i9), (.int .u64 i10), (.int .u32 i11), (.slice p12 n13 c14)] : List Value) = some h17 ∧
    (((i15 : Int) = 0 → ∃ i18 : Int, ld1 h17 h1.next 0 = some (.int .u64 i18) ∧
    (∃ l19 : List Value, aBuild Try.prog 64 #[] = some (.agg l19.toArray) ∧
    (Wf Try.prog K 40 [(.pointer pa0), (.int .u64 i18), (.int .i64 ia2), (.agg l19.toArray)] h17 fun r20 h21 =>
    (Q (.int .i64 0) h21)))) ∧
    (¬ (i15 : Int) = 0 → Q (.int .i64 i15) h17))))) :
    Wf Try.prog K 21 [(.pointer pa0), (.string sa1), (.int .i64 ia2)] h Q :=
  vcF_sound (hs := []) hk (Eq.mpr (by kernel_rfl) H)
theorem vc_model_Model_put {K : Xs} (hk : K 40 = none) (pa0 : Option Addr) (ia1 : Int) (ia2 : Int) (la3 : List Value) (h : AH) (Q : Value → AH → Prop) (H :
    ∀ h0 : AH, h0 = h.alloc (.cells la3 64 false) →
    derefP pa0 fun b1 o2 => (∃ m3 : Option Nat, ld1 h0 b1 (o2 + 2) = some (.map m3) ∧
    (∃ l4 : List Value, aLookup Try.prog h0 50 (.map m3) (.int .u64 ia1) false = some (.agg l4.toArray) ∧
    (∃ z5 : List Value, zeroCellsOf Try.prog 65 = some z5 ∧ ∀ h6 : AH, h6 = h0.alloc (.cells z5 65 false) →
    (List.length l4 = 8256) ∧ ∃ h7 : AH, stN h6 h0.next 0 l4 = some h7 ∧
    (∃ l8 : List Value, ldN h7 h.next 0 129 = some l8 ∧
    (((0 : Int) ≤ ia2) ∧ ((ia2 : Int) < 64) ∧
    ((List.length l8 = 129) ∧ ∃ h9 : AH, stN h7 h0.next (0 + Int.toNat ia2 * 129) l8 = some h9 ∧
    (derefP pa0 fun b10 o11 => (∃ m12 : Option Nat, ld1 h9 b10 (o11 + 2) = some (.map m12) ∧
    (∃ l13 : List Value, ldN h9 h0.next 0 8256 = some l13 ∧
    (∃ h14 : AH, aMapUpdate Try.prog h9 50 (.map m12) (.int .u64 ia1) (.agg l13.toArray) = some h14 ∧
    (Q (.tuple #[]) h14)))))))))))) :
    Wf Try.prog K 40 [(.pointer pa0), (.int .u64 ia1), (.int .i64 ia2), (.agg la3.toArray)] h Q :=
  vcF_sound (hs := []) hk (Eq.mpr (by kernel_rfl) H)
theorem vc_model_Model_read {K : Xs} (hk : K 22 = none) (pa0 : Option Addr) (sa1 : ByteArray) (ia2 : Int) (h : AH) (Q : Value → AH → Prop) (H :
    ∀ h0 : AH, h0 = h.alloc (.cells (List.replicate 128 (.int .u8 0) : List Value) 34 false) →
    Wf Try.prog K 41 [(.pointer pa0), (.string sa1), (.int .i64 ia2)] h0 fun r1 h2 =>
    (∃ i3 : Int, ∃ s4 : ByteArray, ∃ b5 : Bool, ∃ i6 : Int, ∃ i7 : Int, ∃ i8 : Int, ∃ i9 : Int, ∃ i10 : Int, ∃ i11 : Int, ∃ i12 : Int, ∃ (p13 : Option Addr) (n14 c15 : Nat), ∃ i16 : Int, r1 = (.tuple #[(.agg #[(.int .u64 i3), (.string s4), (.bool b5), (.int .u64 i6), (.int .u64 i7), (.int .u64 i8), (.int .i64 i9), (.int .i64 i10), (.int .u64 i11), (.int .u32 i12), (.slice p13 n14 c15)]), (.int .i64 i16)]) ∧
    (∀ h17 : AH, h17 = h2.alloc (.cells ([(.int .u64 0), (.string (ByteArray.mk #[])), (.bool false), (.int .u64 0), (.int .u64 0), (.int .u64 0), (.int .i64 0), (.int .i64 0), (.int .u64 0), (.int .u32 0), (.slice none 0 0)] : List Value) 59 false) →
    (List.length ([(.int .u64 i3), (.string s4), (.bool b5), (.int .u64 i6), (.int .u64 i7), (.int .u64 i8), (.int .i64 i9), (.int .i64 i10), (.int .u64 i11), (.int .u32 i12), (.slice p13 n14 c15)] : List Value) = 11) ∧ ∃ h18 : AH, stN h17 h2.next 0 ([(.int .u64 i3), (.string s4), (.bool b5), (.int .u64 i6), (.int .u64 i7), (.int .u64 i8), (.int .i64 i9), (.int .i64 i10), (.int .u64 i11), (.int .u32 i12), (.slice p13 n14 c15)] : List Value) = some h18 ∧
    (((i16 : Int) = 0 → derefP pa0 fun b19 o20 => (∃ m21 : Option Nat, ld1 h18 b19 (o20 + 2) = some (.map m21) ∧
    (∃ i22 : Int, ld1 h18 h2.next 0 = some (.int .u64 i22) ∧
    (∃ l23 : List Value, aLookup Try.prog h18 50 (.map m21) (.int .u64 i22) false = some (.agg l23.toArray) ∧
    (((0 : Int) ≤ ia2) ∧ ((ia2 : Int) < 64) ∧ (∃ l24 : List Value, (List.take 129 (List.drop (Int.toNat ia2 * 129) l23)) = l24 ∧
    (∃ l25 : List Value, (List.take 128 (List.drop 0 l24)) = l25 ∧
    ((List.length l25 = 128) ∧ ∃ h26 : AH, stN h18 h.next 0 l25 = some h26 ∧
    (∃ l27 : List Value, ldN h26 h.next 0 128 = some l27 ∧
    (Q (.tuple #[(.agg l27.toArray), (.int .i64 0)]) h26)))))))))) ∧
    (¬ (i16 : Int) = 0 → ∃ l28 : List Value, aBuild Try.prog 34 #[] = some (.agg l28.toArray) ∧
    ((List.length l28 = 128) ∧ ∃ h29 : AH, stN h18 h.next 0 l28 = some h29 ∧
    (∃ l30 : List Value, ldN h29 h.next 0 128 = some l30 ∧
    (Q (.tuple #[(.agg l30.toArray), (.int .i64 i16)]) h29)))))))) :
    Wf Try.prog K 22 [(.pointer pa0), (.string sa1), (.int .i64 ia2)] h Q :=
  vcF_sound (hs := []) hk (Eq.mpr (by kernel_rfl) H)
theorem vc_model_Model_back {K : Xs} (hk : K 26 = none) (pa0 : Option Addr) (sa1 : ByteArray) (h : AH) (Q : Value → AH → Prop) (H :
    derefP pa0 fun b0 o1 => (∃ i2 : Int, ∃ (p3 : Option Addr) (n4 c5 : Nat), ldN h b0 o1 2 = some ([(.int .u64 i2), (.slice p3 n4 c5)] : List Value) ∧
    (Wf Try.prog K 51 [(.agg #[(.int .u64 i2), (.slice p3 n4 c5)]), (.string sa1)] h fun r6 h7 =>
    (∃ i8 : Int, ∃ (p9 : Option Addr) (n10 c11 : Nat), ∃ i12 : Int, ∃ s13 : ByteArray, ∃ b14 : Bool, ∃ i15 : Int, ∃ i16 : Int, ∃ i17 : Int, ∃ i18 : Int, ∃ i19 : Int, ∃ i20 : Int, ∃ i21 : Int, ∃ (p22 : Option Addr) (n23 c24 : Nat), ∃ i25 : Int, r6 = (.tuple #[(.agg #[(.int .u64 i8), (.slice p9 n10 c11)]), (.agg #[(.int .u64 i12), (.string s13), (.bool b14), (.int .u64 i15), (.int .u64 i16), (.int .u64 i17), (.int .i64 i18), (.int .i64 i19), (.int .u64 i20), (.int .u32 i21), (.slice p22 n23 c24)]), (.int .i64 i25)]) ∧
    (∀ h26 : AH, h26 = h7.alloc (.cells ([(.int .u64 0), (.slice none 0 0)] : List Value) 49 false) →
    ∀ h27 : AH, h27 = h26.alloc (.cells ([(.int .u64 0), (.string (ByteArray.mk #[])), (.bool false), (.int .u64 0), (.int .u64 0), (.int .u64 0), (.int .i64 0), (.int .i64 0), (.int .u64 0), (.int .u32 0), (.slice none 0 0)] : List Value) 59 false) →
    (List.length ([(.int .u64 i8), (.slice p9 n10 c11)] : List Value) = 2) ∧ ∃ h28 : AH, stN h27 h7.next 0 ([(.int .u64 i8), (.slice p9 n10 c11)] : List Value) = some h28 ∧
    ((List.length ([(.int .u64 i12), (.string s13), (.bool b14), (.int .u64 i15), (.int .u64 i16), (.int .u64 i17), (.int .i64 i18), (.int .i64 i19), (.int .u64 i20), (.int .u32 i21), (.slice p22 n23 c24)] : List Value) = 11) ∧ ∃ h29 : AH, stN h28 h26.next 0 ([(.int .u64 i12), (.string s13), (.bool b14), (.int .u64 i15), (.int .u64 i16), (.int .u64 i17), (.int .i64 i18), (.int .i64 i19), (.int .u64 i20), (.int .u32 i21), (.slice p22 n23 c24)] : List Value) = some h29 ∧
    (((i25 : Int) = 0 → derefP pa0 fun b30 o31 => (∃ m32 : Option Nat, ld1 h29 b30 (o31 + 2) = some (.map m32) ∧
    (∃ i33 : Int, ld1 h29 h26.next 0 = some (.int .u64 i33) ∧
    (derefP pa0 fun b34 o35 => (∃ m36 : Option Nat, ld1 h29 b34 (o35 + 2) = some (.map m36) ∧
    (∃ i37 : Int, ld1 h29 h26.next 4 = some (.int .u64 i37) ∧
    (∃ l38 : List Value, aLookup Try.prog h29 50 (.map m36) (.int .u64 i37) false = some (.agg l38.toArray) ∧
    (∃ h39 : AH, aMapUpdate Try.prog h29 50 (.map m32) (.int .u64 i33) (.agg l38.toArray) = some h39 ∧
    (∃ i40 : Int, ∃ (p41 : Option Addr) (n42 c43 : Nat), ldN h39 h7.next 0 2 = some ([(.int .u64 i40), (.slice p41 n42 c43)] : List Value) ∧
    (derefP pa0 fun b44 o45 => ((List.length ([(.int .u64 i40), (.slice p41 n42 c43)] : List Value) = 2) ∧ ∃ h46 : AH, stN h39 b44 o45 ([(.int .u64 i40), (.slice p41 n42 c43)] : List Value) = some h46 ∧
    (Q (.int .i64 0) h46)))))))))))) ∧
    (¬ (i25 : Int) = 0 → Q (.int .i64 i25) h29)))))))) :
    Wf Try.prog K 26 [(.pointer pa0), (.string sa1)] h Q :=
  vcF_sound (hs := []) hk (Eq.mpr (by kernel_rfl) H)
theorem vc_model_Model_destroy {K : Xs} (hk : K 27 = none) (pa0 : Option Addr) (sa1 : ByteArray) (h : AH) (Q : Value → AH → Prop) (H :
    Wf Try.prog K 52 [(.string sa1)] h fun r0 h1 =>
    (∃ s2 : ByteArray, ∃ s3 : ByteArray, ∃ i4 : Int, r0 = (.tuple #[(.string s2), (.string s3), (.int .i64 i4)]) ∧
    (((i4 : Int) = 0 → derefP pa0 fun b5 o6 => (∃ (p7 : Option Addr) (n8 c9 : Nat), ld1 h1 b5 (o6 + 1) = some (.slice p7 n8 c9) ∧
    (Wf Try.prog K 30 [(.slice p7 n8 c9), (.string sa1)] h1 fun r10 h11 =>
    (∃ i12 : Int, ∃ s13 : ByteArray, ∃ b14 : Bool, ∃ i15 : Int, ∃ i16 : Int, ∃ i17 : Int, ∃ i18 : Int, ∃ i19 : Int, ∃ i20 : Int, ∃ i21 : Int, ∃ (p22 : Option Addr) (n23 c24 : Nat), ∃ i25 : Int, r10 = (.tuple #[(.agg #[(.int .u64 i12), (.string s13), (.bool b14), (.int .u64 i15), (.int .u64 i16), (.int .u64 i17), (.int .i64 i18), (.int .i64 i19), (.int .u64 i20), (.int .u32 i21), (.slice p22 n23 c24)]), (.int .i64 i25)]) ∧
    (∀ h26 : AH, h26 = h11.alloc (.cells ([(.int .u64 0), (.string (ByteArray.mk #[])), (.bool false), (.int .u64 0), (.int .u64 0), (.int .u64 0), (.int .i64 0), (.int .i64 0), (.int .u64 0), (.int .u32 0), (.slice none 0 0)] : List Value) 59 false) →
    (List.length ([(.int .u64 i12), (.string s13), (.bool b14), (.int .u64 i15), (.int .u64 i16), (.int .u64 i17), (.int .i64 i18), (.int .i64 i19), (.int .u64 i20), (.int .u32 i21), (.slice p22 n23 c24)] : List Value) = 11) ∧ ∃ h27 : AH, stN h26 h11.next 0 ([(.int .u64 i12), (.string s13), (.bool b14), (.int .u64 i15), (.int .u64 i16), (.int .u64 i17), (.int .i64 i18), (.int .i64 i19), (.int .u64 i20), (.int .u32 i21), (.slice p22 n23 c24)] : List Value) = some h27 ∧
    (∀ h28 : AH, h28 = h27.alloc (.cells ([(.int .u64 0), (.slice none 0 0)] : List Value) 49 false) →
    (s3 = (ByteArray.mk #[]) → derefP pa0 fun b29 o30 => (∃ i31 : Int, ∃ (p32 : Option Addr) (n33 c34 : Nat), ldN h28 b29 o30 2 = some ([(.int .u64 i31), (.slice p32 n33 c34)] : List Value) ∧
    (Wf Try.prog K 53 [(.agg #[(.int .u64 i31), (.slice p32 n33 c34)]), (.string sa1)] h28 fun r35 h36 =>
    (∃ i37 : Int, ∃ (p38 : Option Addr) (n39 c40 : Nat), ∃ i41 : Int, ∃ s42 : ByteArray, ∃ b43 : Bool, ∃ i44 : Int, ∃ i45 : Int, ∃ i46 : Int, ∃ i47 : Int, ∃ i48 : Int, ∃ i49 : Int, ∃ i50 : Int, ∃ (p51 : Option Addr) (n52 c53 : Nat), ∃ i54 : Int, r35 = (.tuple #[(.agg #[(.int .u64 i37), (.slice p38 n39 c40)]), (.agg #[(.int .u64 i41), (.string s42), (.bool b43), (.int .u64 i44), (.int .u64 i45), (.int .u64 i46), (.int .i64 i47), (.int .i64 i48), (.int .u64 i49), (.int .u32 i50), (.slice p51 n52 c53)]), (.int .i64 i54)]) ∧
    ((List.length ([(.int .u64 i37), (.slice p38 n39 c40)] : List Value) = 2) ∧ ∃ h55 : AH, stN h36 h27.next 0 ([(.int .u64 i37), (.slice p38 n39 c40)] : List Value) = some h55 ∧
    (((i54 : Int) = 0 → derefP pa0 fun b56 o57 => (∃ m58 : Option Nat, ld1 h55 b56 (o57 + 2) = some (.map m58) ∧
    (∃ i59 : Int, ld1 h55 h11.next 0 = some (.int .u64 i59) ∧
    (∃ h60 : AH, aBuiltin Try.prog h55 .delete #[50, 46] [(.map m58), (.int .u64 i59)] = some (undef, h60) ∧
    (∃ i61 : Int, ∃ (p62 : Option Addr) (n63 c64 : Nat), ldN h60 h27.next 0 2 = some ([(.int .u64 i61), (.slice p62 n63 c64)] : List Value) ∧
    (derefP pa0 fun b65 o66 => ((List.length ([(.int .u64 i61), (.slice p62 n63 c64)] : List Value) = 2) ∧ ∃ h67 : AH, stN h60 b65 o66 ([(.int .u64 i61), (.slice p62 n63 c64)] : List Value) = some h67 ∧
    (Q (.int .i64 0) h67)))))))) ∧
    (¬ (i54 : Int) = 0 → Q (.int .i64 i54) h55))))))) ∧
    (¬ s3 = (ByteArray.mk #[]) → derefP pa0 fun b68 o69 => (∃ i70 : Int, ∃ (p71 : Option Addr) (n72 c73 : Nat), ldN h28 b68 o69 2 = some ([(.int .u64 i70), (.slice p71 n72 c73)] : List Value) ∧
    (Wf Try.prog K 54 [(.agg #[(.int .u64 i70), (.slice p71 n72 c73)]), (.string sa1)] h28 fun r74 h75 =>
    (∃ i76 : Int, ∃ (p77 : Option Addr) (n78 c79 : Nat), ∃ (p80 : Option Addr) (n81 c82 : Nat), ∃ i83 : Int, r74 = (.tuple #[(.agg #[(.int .u64 i76), (.slice p77 n78 c79)]), (.slice p80 n81 c82), (.int .i64 i83)]) ∧
    ((List.length ([(.int .u64 i76), (.slice p77 n78 c79)] : List Value) = 2) ∧ ∃ h84 : AH, stN h75 h27.next 0 ([(.int .u64 i76), (.slice p77 n78 c79)] : List Value) = some h84 ∧
    (((i83 : Int) = 0 → derefP pa0 fun b85 o86 => (∃ m87 : Option Nat, ld1 h84 b85 (o86 + 2) = some (.map m87) ∧
    (∃ i88 : Int, ld1 h84 h11.next 0 = some (.int .u64 i88) ∧
    (∃ h89 : AH, aBuiltin Try.prog h84 .delete #[50, 46] [(.map m87), (.int .u64 i88)] = some (undef, h89) ∧
    (∃ i90 : Int, ∃ (p91 : Option Addr) (n92 c93 : Nat), ldN h89 h27.next 0 2 = some ([(.int .u64 i90), (.slice p91 n92 c93)] : List Value) ∧
    (derefP pa0 fun b94 o95 => ((List.length ([(.int .u64 i90), (.slice p91 n92 c93)] : List Value) = 2) ∧ ∃ h96 : AH, stN h89 b94 o95 ([(.int .u64 i90), (.slice p91 n92 c93)] : List Value) = some h96 ∧
    (Q (.int .i64 0) h96)))))))) ∧
    (¬ (i83 : Int) = 0 → Q (.int .i64 i83) h84))))))))))))) ∧
    (¬ (i4 : Int) = 0 → Q (.int .i64 141) h1)))) :
    Wf Try.prog K 27 [(.pointer pa0), (.string sa1)] h Q :=
  vcF_sound (hs := []) hk (Eq.mpr (by kernel_rfl) H)
theorem vc_model_Model_List {K : Xs} (hk : K 9 = none) (pa0 : Option Addr) (h : AH) (Q : Value → AH → Prop) (H :
    derefP pa0 fun b0 o1 => (∃ (p2 : Option Addr) (n3 c4 : Nat), ld1 h b0 (o1 + 1) = some (.slice p2 n3 c4) ∧
    (∃ I5 : Option Addr → Nat → Nat → Int → Nat → AH → Prop, (∃ n, I5 none 0 0 0 n h) ∧
    ∀ (k6 : Nat) (h7 : AH) (p9 : Option Addr) (n10 : Nat) (c11 : Nat) (i12 : Int), I5 p9 n10 c11 i12 k6 h7 →
    ((i12 : Int) < ((n3 : Nat) : Int) → derefP p2 fun b13 o14 => (((0 : Int) ≤ i12) ∧ ((i12 : Int) < ((n3 : Nat) : Int)) ∧
    (∃ i15 : Int, ld1 h7 b13 (o14 + Int.toNat i12 * 11) = some (.int .u64 i15) ∧
    (Wf Try.prog K 16 [(.slice p2 n3 c4), (.int .u64 i15)] h7 fun r16 h17 =>
    (∃ s18 : ByteArray, r16 = (.string s18) ∧
    (∃ i19 : Int, ld1 h17 b13 ((o14 + Int.toNat i12 * 11) + 6) = some (.int .i64 i19) ∧
    (∀ h20 : AH, h20 = h17.alloc (.cells ([(.string (ByteArray.mk #[])), (.int .i64 0), (.int .i64 0), (.string (ByteArray.mk #[]))] : List Value) 39 false) →
    (List.length ([(.string s18), (.int .i64 i19), (.int .i64 0), (.string (ByteArray.mk #[]))] : List Value) = 4) ∧ ∃ h21 : AH, stN h20 h17.next 0 ([(.string s18), (.int .i64 i19), (.int .i64 0), (.string (ByteArray.mk #[]))] : List Value) = some h21 ∧
    ((ld1 h7 b13 ((o14 + Int.toNat i12 * 11) + 6) = some (.int .i64 i19)) ∧
    ((ld1 h17 b13 ((o14 + Int.toNat i12 * 11) + 6) = some (.int .i64 i19)) ∧
    (((ld1 h21 b13 ((o14 + Int.toNat i12 * 11) + 2) = some (.bool true) ∧
    (∃ s22 : ByteArray, ∃ i23 : Int, ∃ i24 : Int, ∃ s25 : ByteArray, ldN h21 h17.next 0 4 = some ([(.string s22), (.int .i64 i23), (.int .i64 i24), (.string s25)] : List Value) ∧
    (∀ h26 : AH, h26 = h21.alloc (.cells ([(.string s22), (.int .i64 i23), (.int .i64 i24), (.string s25)] : List Value) 39 false) →
    ∃ (p27 : Option Addr) (n28 c29 : Nat) (h30 : AH), aBuiltin Try.prog h26 .append #[23, 23] [(.slice p9 n10 c11), (.slice (some ⟨h21.next, 0, none⟩) 1 1)] = some (.slice p27 n28 c29, h30) ∧
    (∀ i31 : Int, i31 = IntKind.wrap .i64 (i12 + 1) → ∃ j8, j8 < k6 ∧ I5 p27 n28 c29 i31 j8 h30)))) ∨ (ld1 h21 b13 ((o14 + Int.toNat i12 * 11) + 2) = some (.bool false) ∧
    (∃ i32 : Int, ld1 h21 b13 (o14 + Int.toNat i12 * 11) = some (.int .u64 i32) ∧
    (Wf Try.prog K 17 [(.slice p2 n3 c4), (.int .u64 i32)] h21 fun r33 h34 =>
    (∃ i35 : Int, r33 = (.int .u64 i35) ∧
    (Wf Try.prog K 16 [(.slice p2 n3 c4), (.int .u64 i35)] h34 fun r36 h37 =>
    (∃ s38 : ByteArray, r36 = (.string s38) ∧
    (∃ h39 : AH, st1 h37 h17.next 3 (.string s38) = some h39 ∧
    (∃ s40 : ByteArray, ∃ i41 : Int, ∃ i42 : Int, ∃ s43 : ByteArray, ldN h39 h17.next 0 4 = some ([(.string s40), (.int .i64 i41), (.int .i64 i42), (.string s43)] : List Value) ∧
    (∀ h44 : AH, h44 = h39.alloc (.cells ([(.string s40), (.int .i64 i41), (.int .i64 i42), (.string s43)] : List Value) 39 false) →
    ∃ (p45 : Option Addr) (n46 c47 : Nat) (h48 : AH), aBuiltin Try.prog h44 .append #[23, 23] [(.slice p9 n10 c11), (.slice (some ⟨h39.next, 0, none⟩) 1 1)] = some (.slice p45 n46 c47, h48) ∧
    (∀ i49 : Int, i49 = IntKind.wrap .i64 (i12 + 1) → ∃ j8, j8 < k6 ∧ I5 p45 n46 c47 i49 j8 h48))))))))))))))))))))) ∧
    (¬ (i12 : Int) < ((n3 : Nat) : Int) → Q (.slice p9 n10 c11) h7)))) :
    Wf Try.prog K 9 [(.pointer pa0)] h Q :=
  vcF_sound (hs := [(4, [(4, .slice none 0 0), (15, .int .i64 0)])]) hk (Eq.mpr (by kernel_rfl) H)
theorem vc_model_Model_Written {K : Xs} (hk : K 15 = none) (pa0 : Option Addr) (sa1 : ByteArray) (h : AH) (Q : Value → AH → Prop) (H :
    derefP pa0 fun b0 o1 => (∃ (p2 : Option Addr) (n3 c4 : Nat), ld1 h b0 (o1 + 1) = some (.slice p2 n3 c4) ∧
    (Wf Try.prog K 30 [(.slice p2 n3 c4), (.string sa1)] h fun r5 h6 =>
    (∃ i7 : Int, ∃ s8 : ByteArray, ∃ b9 : Bool, ∃ i10 : Int, ∃ i11 : Int, ∃ i12 : Int, ∃ i13 : Int, ∃ i14 : Int, ∃ i15 : Int, ∃ i16 : Int, ∃ (p17 : Option Addr) (n18 c19 : Nat), ∃ i20 : Int, r5 = (.tuple #[(.agg #[(.int .u64 i7), (.string s8), (.bool b9), (.int .u64 i10), (.int .u64 i11), (.int .u64 i12), (.int .i64 i13), (.int .i64 i14), (.int .u64 i15), (.int .u32 i16), (.slice p17 n18 c19)]), (.int .i64 i20)]) ∧
    (∀ h21 : AH, h21 = h6.alloc (.cells ([(.int .u64 0), (.string (ByteArray.mk #[])), (.bool false), (.int .u64 0), (.int .u64 0), (.int .u64 0), (.int .i64 0), (.int .i64 0), (.int .u64 0), (.int .u32 0), (.slice none 0 0)] : List Value) 59 false) →
    (List.length ([(.int .u64 i7), (.string s8), (.bool b9), (.int .u64 i10), (.int .u64 i11), (.int .u64 i12), (.int .i64 i13), (.int .i64 i14), (.int .u64 i15), (.int .u32 i16), (.slice p17 n18 c19)] : List Value) = 11) ∧ ∃ h22 : AH, stN h21 h6.next 0 ([(.int .u64 i7), (.string s8), (.bool b9), (.int .u64 i10), (.int .u64 i11), (.int .u64 i12), (.int .i64 i13), (.int .i64 i14), (.int .u64 i15), (.int .u32 i16), (.slice p17 n18 c19)] : List Value) = some h22 ∧
    (((i20 : Int) = 0 → derefP pa0 fun b23 o24 => (∃ m25 : Option Nat, ld1 h22 b23 (o24 + 2) = some (.map m25) ∧
    (∃ i26 : Int, ld1 h22 h6.next 0 = some (.int .u64 i26) ∧
    (∃ l27 : List Value, aLookup Try.prog h22 50 (.map m25) (.int .u64 i26) false = some (.agg l27.toArray) ∧
    (∃ I28 : Option Addr → Nat → Nat → Int → Nat → AH → Prop, (∃ n, I28 none 0 0 0 n h22) ∧
    ∀ (k29 : Nat) (h30 : AH) (p32 : Option Addr) (n33 : Nat) (c34 : Nat) (i35 : Int), I28 p32 n33 c34 i35 k29 h30 →
    ((i35 : Int) < 64 → ((0 : Int) ≤ i35) ∧ ((i35 : Int) < 64) ∧ (∃ l36 : List Value, (List.take 129 (List.drop (Int.toNat i35 * 129) l27)) = l36 ∧
    (∀ h37 : AH, h37 = h30.alloc (.cells (List.replicate 128 (.int .u8 0) ++ [(.int .u64 0)] : List Value) 64 false) →
    (List.length l36 = 129) ∧ ∃ h38 : AH, stN h37 h30.next 0 l36 = some h38 ∧
    (∃ i39 : Int, ld1 h38 h30.next 128 = some (.int .u64 i39) ∧
    (((i39 : Int) = 0 → ∀ i40 : Int, i40 = IntKind.wrap .i64 (i35 + 1) → ∃ j31, j31 < k29 ∧ I28 p32 n33 c34 i40 j31 h38) ∧
    (¬ (i39 : Int) = 0 → ∀ h41 : AH, h41 = h38.alloc (.cells ([(.int .i64 i35)] : List Value) 3 false) →
    ∃ (p42 : Option Addr) (n43 c44 : Nat) (h45 : AH), aBuiltin Try.prog h41 .append #[44, 44] [(.slice p32 n33 c34), (.slice (some ⟨h38.next, 0, none⟩) 1 1)] = some (.slice p42 n43 c44, h45) ∧
    (∀ i46 : Int, i46 = IntKind.wrap .i64 (i35 + 1) → ∃ j31, j31 < k29 ∧ I28 p42 n43 c44 i46 j31 h45))))))) ∧
    (¬ (i35 : Int) < 64 → Q (.slice p32 n33 c34) h30)))))) ∧
    (¬ (i20 : Int) = 0 → Q (.slice none 0 0) h22))))))) :
    Wf Try.prog K 15 [(.pointer pa0), (.string sa1)] h Q :=
  vcF_sound (hs := [(6, [(7, .slice none 0 0), (29, .int .i64 0)])]) hk (Eq.mpr (by kernel_rfl) H)
theorem vc_model_Model_Copy {K : Xs} (hk : K 12 = none) (pa0 : Option Addr) (h : AH) (Q : Value → AH → Prop) (H :
    derefP pa0 fun b0 o1 => (∃ (p2 : Option Addr) (n3 c4 : Nat), ld1 h b0 (o1 + 1) = some (.slice p2 n3 c4) ∧
    (Wf Try.prog K 28 [(.slice p2 n3 c4)] h fun r5 h6 =>
    (∃ (p7 : Option Addr) (n8 c9 : Nat), r5 = (.slice p7 n8 c9) ∧
    (derefP pa0 fun b10 o11 => (∃ m12 : Option Nat, ld1 h6 b10 (o11 + 2) = some (.map m12) ∧
    (Wf Try.prog K 29 [(.map m12)] h6 fun r13 h14 =>
    (∃ m15 : Option Nat, r13 = (.map m15) ∧
    (derefP pa0 fun b16 o17 => (∃ i18 : Int, ld1 h14 b16 o17 = some (.int .u64 i18) ∧
    (derefP pa0 fun b19 o20 => (∃ i21 : Int, ld1 h14 b19 (o20 + 3) = some (.int .u64 i21) ∧
    (derefP pa0 fun b22 o23 => (∃ i24 : Int, ld1 h14 b22 (o23 + 4) = some (.int .u64 i24) ∧
    (∀ h25 : AH, h25 = h14.alloc (.cells ([(.int .u64 i18), (.slice p7 n8 c9), (.map m15), (.int .u64 i21), (.int .u64 i24)] : List Value) 52 false) →
    (ld1 h b10 (o11 + 2) = some (.map m12)) ∧
    ((ld1 h6 b10 (o11 + 2) = some (.map m12)) ∧
    ((ld1 h b16 o17 = some (.int .u64 i18)) ∧
    ((ld1 h6 b16 o17 = some (.int .u64 i18)) ∧
    ((ld1 h b19 (o20 + 3) = some (.int .u64 i21)) ∧
    ((ld1 h6 b19 (o20 + 3) = some (.int .u64 i21)) ∧
    ((ld1 h b22 (o23 + 4) = some (.int .u64 i24)) ∧
    ((ld1 h6 b22 (o23 + 4) = some (.int .u64 i24)) ∧
    ((ld1 h6 b16 o17 = some (.int .u64 i18)) ∧
    ((ld1 h14 b16 o17 = some (.int .u64 i18)) ∧
    ((ld1 h6 b19 (o20 + 3) = some (.int .u64 i21)) ∧
    ((ld1 h14 b19 (o20 + 3) = some (.int .u64 i21)) ∧
    ((ld1 h6 b22 (o23 + 4) = some (.int .u64 i24)) ∧
    ((ld1 h14 b22 (o23 + 4) = some (.int .u64 i24)) ∧
    (Q (.pointer (some ⟨h14.next, 0, none⟩)) h25))))))))))))))))))))))))))))) :
    Wf Try.prog K 12 [(.pointer pa0)] h Q :=
  vcF_sound (hs := []) hk (Eq.mpr (by kernel_rfl) H)
theorem vc_aquiferref20_SameList {K : Xs} (hk : K 13 = none) (pa0 : Option Addr) (na0 ca0 : Nat) (pa1 : Option Addr) (na1 ca1 : Nat) (h : AH) (Q : Value → AH → Prop) (H :
    ((((na0 : Nat) : Int) : Int) = ((na1 : Nat) : Int) → ∃ I0 : Int → Nat → AH → Prop, (∃ n, I0 0 n h) ∧
    ∀ (k1 : Nat) (h2 : AH) (i4 : Int), I0 i4 k1 h2 →
    ((i4 : Int) < ((na0 : Nat) : Int) → derefP pa0 fun b5 o6 => (((0 : Int) ≤ i4) ∧ ((i4 : Int) < ((na0 : Nat) : Int)) ∧
    (∃ s7 : ByteArray, ∃ i8 : Int, ∃ i9 : Int, ∃ s10 : ByteArray, ldN h2 b5 (o6 + Int.toNat i4 * 4) 4 = some ([(.string s7), (.int .i64 i8), (.int .i64 i9), (.string s10)] : List Value) ∧
    (derefP pa1 fun b11 o12 => (((0 : Int) ≤ i4) ∧ ((i4 : Int) < ((na1 : Nat) : Int)) ∧
    (∃ s13 : ByteArray, ∃ i14 : Int, ∃ i15 : Int, ∃ s16 : ByteArray, ldN h2 b11 (o12 + Int.toNat i4 * 4) 4 = some ([(.string s13), (.int .i64 i14), (.int .i64 i15), (.string s16)] : List Value) ∧
    (∃ la17 lb18, keyA Try.prog 39 (.agg #[(.string s7), (.int .i64 i8), (.int .i64 i9), (.string s10)]) = some la17 ∧ keyA Try.prog 39 (.agg #[(.string s13), (.int .i64 i14), (.int .i64 i15), (.string s16)]) = some lb18 ∧
    (litsEq la17 lb18 = true → ∀ i19 : Int, i19 = IntKind.wrap .i64 (i4 + 1) → ∃ j3, j3 < k1 ∧ I0 i19 j3 h2) ∧
    (litsEq la17 lb18 = false → Q (.bool false) h2)))))))) ∧
    (¬ (i4 : Int) < ((na0 : Nat) : Int) → Q (.bool true) h2)) ∧
    (¬ (((na0 : Nat) : Int) : Int) = ((na1 : Nat) : Int) → Q (.bool false) h)) :
    Wf Try.prog K 13 [(.slice pa0 na0 ca0), (.slice pa1 na1 ca1)] h Q :=
  vcF_sound (hs := [(4, [(13, .int .i64 0)])]) hk (Eq.mpr (by kernel_rfl) H)
theorem vc_aquiferref01_SameInts {K : Xs} (hk : K 14 = none) (pa0 : Option Addr) (na0 ca0 : Nat) (pa1 : Option Addr) (na1 ca1 : Nat) (h : AH) (Q : Value → AH → Prop) (H :
    ((((na0 : Nat) : Int) : Int) = ((na1 : Nat) : Int) → ∃ I0 : Int → Nat → AH → Prop, (∃ n, I0 0 n h) ∧
    ∀ (k1 : Nat) (h2 : AH) (i4 : Int), I0 i4 k1 h2 →
    ((i4 : Int) < ((na0 : Nat) : Int) → derefP pa0 fun b5 o6 => (((0 : Int) ≤ i4) ∧ ((i4 : Int) < ((na0 : Nat) : Int)) ∧
    (∃ i7 : Int, ld1 h2 b5 (o6 + Int.toNat i4 * 1) = some (.int .i64 i7) ∧
    (derefP pa1 fun b8 o9 => (((0 : Int) ≤ i4) ∧ ((i4 : Int) < ((na1 : Nat) : Int)) ∧
    (∃ i10 : Int, ld1 h2 b8 (o9 + Int.toNat i4 * 1) = some (.int .i64 i10) ∧
    (((i7 : Int) = i10 → ∀ i11 : Int, i11 = IntKind.wrap .i64 (i4 + 1) → ∃ j3, j3 < k1 ∧ I0 i11 j3 h2) ∧
    (¬ (i7 : Int) = i10 → Q (.bool false) h2)))))))) ∧
    (¬ (i4 : Int) < ((na0 : Nat) : Int) → Q (.bool true) h2)) ∧
    (¬ (((na0 : Nat) : Int) : Int) = ((na1 : Nat) : Int) → Q (.bool false) h)) :
    Wf Try.prog K 14 [(.slice pa0 na0 ca0), (.slice pa1 na1 ca1)] h Q :=
  vcF_sound (hs := [(4, [(13, .int .i64 0)])]) hk (Eq.mpr (by kernel_rfl) H)
end Go.Am
