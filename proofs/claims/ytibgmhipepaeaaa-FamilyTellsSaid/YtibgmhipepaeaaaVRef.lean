/-
  WEAKEST CONDITIONS of some functions of this program, printed by a program.
-/
import Derived.Test.YtibgmhipepaeaaaAmG
import Derived.Test.YtibgmhipepaeaaaRows
set_option linter.unusedVariables false
set_option maxRecDepth 100000
namespace Go.Am
open Go.Proofs
theorem vc_aquiferref16_Find {K : Xs} (hk : K 25 = none) (pa0 : Option Addr) (na0 ca0 : Nat) (ia1 : Int) (h : AH) (Q : Value → AH → Prop) (H :
    ∀ h0 : AH, h0 = h.alloc (.cells ([(.int .u64 0), (.string (ByteArray.mk #[])), (.bool false), (.int .u64 0), (.int .u64 0), (.int .u64 0), (.int .i64 0), (.int .i64 0), (.int .u64 0), (.int .u32 0), (.slice none 0 0)] : List Value) 28 false) →
    ∃ I1 : Int → Nat → AH → Prop, (∃ n, I1 0 n h0) ∧
    ∀ (k2 : Nat) (h3 : AH) (i5 : Int), I1 i5 k2 h3 →
    ((i5 : Int) < ((na0 : Nat) : Int) → derefP pa0 fun b6 o7 => (((0 : Int) ≤ i5) ∧ ((i5 : Int) < ((na0 : Nat) : Int)) ∧
    (∃ i8 : Int, ∃ s9 : ByteArray, ∃ b10 : Bool, ∃ i11 : Int, ∃ i12 : Int, ∃ i13 : Int, ∃ i14 : Int, ∃ i15 : Int, ∃ i16 : Int, ∃ i17 : Int, ∃ (p18 : Option Addr) (n19 c20 : Nat), ldN h3 b6 (o7 + Int.toNat i5 * 11) 11 = some ([(.int .u64 i8), (.string s9), (.bool b10), (.int .u64 i11), (.int .u64 i12), (.int .u64 i13), (.int .i64 i14), (.int .i64 i15), (.int .u64 i16), (.int .u32 i17), (.slice p18 n19 c20)] : List Value) ∧
    (∀ h21 : AH, h21 = h3.alloc (.cells ([(.int .u64 0), (.string (ByteArray.mk #[])), (.bool false), (.int .u64 0), (.int .u64 0), (.int .u64 0), (.int .i64 0), (.int .i64 0), (.int .u64 0), (.int .u32 0), (.slice none 0 0)] : List Value) 28 false) →
    (List.length ([(.int .u64 i8), (.string s9), (.bool b10), (.int .u64 i11), (.int .u64 i12), (.int .u64 i13), (.int .i64 i14), (.int .i64 i15), (.int .u64 i16), (.int .u32 i17), (.slice p18 n19 c20)] : List Value) = 11) ∧ ∃ h22 : AH, stN h21 h3.next 0 ([(.int .u64 i8), (.string s9), (.bool b10), (.int .u64 i11), (.int .u64 i12), (.int .u64 i13), (.int .i64 i14), (.int .i64 i15), (.int .u64 i16), (.int .u32 i17), (.slice p18 n19 c20)] : List Value) = some h22 ∧
    (∃ i23 : Int, ld1 h22 h3.next 0 = some (.int .u64 i23) ∧
    (((i23 : Int) = ia1 → ∃ i24 : Int, ∃ s25 : ByteArray, ∃ b26 : Bool, ∃ i27 : Int, ∃ i28 : Int, ∃ i29 : Int, ∃ i30 : Int, ∃ i31 : Int, ∃ i32 : Int, ∃ i33 : Int, ∃ (p34 : Option Addr) (n35 c36 : Nat), ldN h22 h3.next 0 11 = some ([(.int .u64 i24), (.string s25), (.bool b26), (.int .u64 i27), (.int .u64 i28), (.int .u64 i29), (.int .i64 i30), (.int .i64 i31), (.int .u64 i32), (.int .u32 i33), (.slice p34 n35 c36)] : List Value) ∧
    ((List.length ([(.int .u64 i24), (.string s25), (.bool b26), (.int .u64 i27), (.int .u64 i28), (.int .u64 i29), (.int .i64 i30), (.int .i64 i31), (.int .u64 i32), (.int .u32 i33), (.slice p34 n35 c36)] : List Value) = 11) ∧ ∃ h37 : AH, stN h22 h.next 0 ([(.int .u64 i24), (.string s25), (.bool b26), (.int .u64 i27), (.int .u64 i28), (.int .u64 i29), (.int .i64 i30), (.int .i64 i31), (.int .u64 i32), (.int .u32 i33), (.slice p34 n35 c36)] : List Value) = some h37 ∧
    (∃ i38 : Int, ∃ s39 : ByteArray, ∃ b40 : Bool, ∃ i41 : Int, ∃ i42 : Int, ∃ i43 : Int, ∃ i44 : Int, ∃ i45 : Int, ∃ i46 : Int, ∃ i47 : Int, ∃ (p48 : Option Addr) (n49 c50 : Nat), ldN h37 h.next 0 11 = some ([(.int .u64 i38), (.string s39), (.bool b40), (.int .u64 i41), (.int .u64 i42), (.int .u64 i43), (.int .i64 i44), (.int .i64 i45), (.int .u64 i46), (.int .u32 i47), (.slice p48 n49 c50)] : List Value) ∧
    (Q (.tuple #[(.agg #[(.int .u64 i38), (.string s39), (.bool b40), (.int .u64 i41), (.int .u64 i42), (.int .u64 i43), (.int .i64 i44), (.int .i64 i45), (.int .u64 i46), (.int .u32 i47), (.slice p48 n49 c50)]), (.bool true)]) h37)))) ∧
    (¬ (i23 : Int) = ia1 → ∀ i51 : Int, i51 = IntKind.wrap .i64 (i5 + 1) → ∃ j4, j4 < k2 ∧ I1 i51 j4 h22))))))) ∧
    (¬ (i5 : Int) < ((na0 : Nat) : Int) → (List.length ([(.int .u64 0), (.string (ByteArray.mk #[])), (.bool false), (.int .u64 0), (.int .u64 0), (.int .u64 0), (.int .i64 0), (.int .i64 0), (.int .u64 0), (.int .u32 0), (.slice none 0 0)] : List Value) = 11) ∧ ∃ h52 : AH, stN h3 h.next 0 ([(.int .u64 0), (.string (ByteArray.mk #[])), (.bool false), (.int .u64 0), (.int .u64 0), (.int .u64 0), (.int .i64 0), (.int .i64 0), (.int .u64 0), (.int .u32 0), (.slice none 0 0)] : List Value) = some h52 ∧
    (∃ i53 : Int, ∃ s54 : ByteArray, ∃ b55 : Bool, ∃ i56 : Int, ∃ i57 : Int, ∃ i58 : Int, ∃ i59 : Int, ∃ i60 : Int, ∃ i61 : Int, ∃ i62 : Int, ∃ (p63 : Option Addr) (n64 c65 : Nat), ldN h52 h.next 0 11 = some ([(.int .u64 i53), (.string s54), (.bool b55), (.int .u64 i56), (.int .u64 i57), (.int .u64 i58), (.int .i64 i59), (.int .i64 i60), (.int .u64 i61), (.int .u32 i62), (.slice p63 n64 c65)] : List Value) ∧
    (Q (.tuple #[(.agg #[(.int .u64 i53), (.string s54), (.bool b55), (.int .u64 i56), (.int .u64 i57), (.int .u64 i58), (.int .i64 i59), (.int .i64 i60), (.int .u64 i61), (.int .u32 i62), (.slice p63 n64 c65)]), (.bool false)]) h52)))) :
    Wf Try.prog K 25 [(.slice pa0 na0 ca0), (.int .u64 ia1)] h Q :=
  vcF_sound (hs := [(2, [(10, .int .i64 0)])]) hk (Eq.mpr (by kernel_rfl) H)
theorem vc_aquiferref16_Named {K : Xs} (hk : K 26 = none) (pa0 : Option Addr) (na0 ca0 : Nat) (sa1 : ByteArray) (h : AH) (Q : Value → AH → Prop) (H :
    ∀ h0 : AH, h0 = h.alloc (.cells ([(.int .u64 0), (.string (ByteArray.mk #[])), (.bool false), (.int .u64 0), (.int .u64 0), (.int .u64 0), (.int .i64 0), (.int .i64 0), (.int .u64 0), (.int .u32 0), (.slice none 0 0)] : List Value) 28 false) →
    Wf Try.prog K 59 [(.string sa1)] h0 fun r1 h2 =>
    (∃ s3 : ByteArray, ∃ s4 : ByteArray, ∃ i5 : Int, r1 = (.tuple #[(.string s3), (.string s4), (.int .i64 i5)]) ∧
    (((i5 : Int) = 0 → ∃ I6 : Int → Nat → AH → Prop, (∃ n, I6 0 n h2) ∧
    ∀ (k7 : Nat) (h8 : AH) (i10 : Int), I6 i10 k7 h8 →
    ((i10 : Int) < ((na0 : Nat) : Int) → derefP pa0 fun b11 o12 => (((0 : Int) ≤ i10) ∧ ((i10 : Int) < ((na0 : Nat) : Int)) ∧
    (∃ i13 : Int, ∃ s14 : ByteArray, ∃ b15 : Bool, ∃ i16 : Int, ∃ i17 : Int, ∃ i18 : Int, ∃ i19 : Int, ∃ i20 : Int, ∃ i21 : Int, ∃ i22 : Int, ∃ (p23 : Option Addr) (n24 c25 : Nat), ldN h8 b11 (o12 + Int.toNat i10 * 11) 11 = some ([(.int .u64 i13), (.string s14), (.bool b15), (.int .u64 i16), (.int .u64 i17), (.int .u64 i18), (.int .i64 i19), (.int .i64 i20), (.int .u64 i21), (.int .u32 i22), (.slice p23 n24 c25)] : List Value) ∧
    (∀ h26 : AH, h26 = h8.alloc (.cells ([(.int .u64 0), (.string (ByteArray.mk #[])), (.bool false), (.int .u64 0), (.int .u64 0), (.int .u64 0), (.int .i64 0), (.int .i64 0), (.int .u64 0), (.int .u32 0), (.slice none 0 0)] : List Value) 28 false) →
    (List.length ([(.int .u64 i13), (.string s14), (.bool b15), (.int .u64 i16), (.int .u64 i17), (.int .u64 i18), (.int .i64 i19), (.int .i64 i20), (.int .u64 i21), (.int .u32 i22), (.slice p23 n24 c25)] : List Value) = 11) ∧ ∃ h27 : AH, stN h26 h8.next 0 ([(.int .u64 i13), (.string s14), (.bool b15), (.int .u64 i16), (.int .u64 i17), (.int .u64 i18), (.int .i64 i19), (.int .i64 i20), (.int .u64 i21), (.int .u32 i22), (.slice p23 n24 c25)] : List Value) = some h27 ∧
    (((ld1 h27 h8.next 2 = some (.bool true) ∧
    (∀ i28 : Int, i28 = IntKind.wrap .i64 (i10 + 1) → ∃ j9, j9 < k7 ∧ I6 i28 j9 h27)) ∨ (ld1 h27 h8.next 2 = some (.bool false) ∧
    (∃ s29 : ByteArray, ld1 h27 h8.next 1 = some (.string s29) ∧
    ((s29 = s3 → (s4 = (ByteArray.mk #[]) → ∃ i30 : Int, ∃ s31 : ByteArray, ∃ b32 : Bool, ∃ i33 : Int, ∃ i34 : Int, ∃ i35 : Int, ∃ i36 : Int, ∃ i37 : Int, ∃ i38 : Int, ∃ i39 : Int, ∃ (p40 : Option Addr) (n41 c42 : Nat), ldN h27 h8.next 0 11 = some ([(.int .u64 i30), (.string s31), (.bool b32), (.int .u64 i33), (.int .u64 i34), (.int .u64 i35), (.int .i64 i36), (.int .i64 i37), (.int .u64 i38), (.int .u32 i39), (.slice p40 n41 c42)] : List Value) ∧
    ((List.length ([(.int .u64 i30), (.string s31), (.bool b32), (.int .u64 i33), (.int .u64 i34), (.int .u64 i35), (.int .i64 i36), (.int .i64 i37), (.int .u64 i38), (.int .u32 i39), (.slice p40 n41 c42)] : List Value) = 11) ∧ ∃ h43 : AH, stN h27 h.next 0 ([(.int .u64 i30), (.string s31), (.bool b32), (.int .u64 i33), (.int .u64 i34), (.int .u64 i35), (.int .i64 i36), (.int .i64 i37), (.int .u64 i38), (.int .u32 i39), (.slice p40 n41 c42)] : List Value) = some h43 ∧
    (∃ i44 : Int, ∃ s45 : ByteArray, ∃ b46 : Bool, ∃ i47 : Int, ∃ i48 : Int, ∃ i49 : Int, ∃ i50 : Int, ∃ i51 : Int, ∃ i52 : Int, ∃ i53 : Int, ∃ (p54 : Option Addr) (n55 c56 : Nat), ldN h43 h.next 0 11 = some ([(.int .u64 i44), (.string s45), (.bool b46), (.int .u64 i47), (.int .u64 i48), (.int .u64 i49), (.int .i64 i50), (.int .i64 i51), (.int .u64 i52), (.int .u32 i53), (.slice p54 n55 c56)] : List Value) ∧
    (Q (.tuple #[(.agg #[(.int .u64 i44), (.string s45), (.bool b46), (.int .u64 i47), (.int .u64 i48), (.int .u64 i49), (.int .i64 i50), (.int .i64 i51), (.int .u64 i52), (.int .u32 i53), (.slice p54 n55 c56)]), (.int .i64 0)]) h43)))) ∧
    (¬ s4 = (ByteArray.mk #[]) → ∃ I57 : Int → Nat → AH → Prop, (∃ n, I57 0 n h27) ∧
    ∀ (k58 : Nat) (h59 : AH) (i61 : Int), I57 i61 k58 h59 →
    ((i61 : Int) < ((na0 : Nat) : Int) → derefP pa0 fun b62 o63 => (((0 : Int) ≤ i61) ∧ ((i61 : Int) < ((na0 : Nat) : Int)) ∧
    (∃ i64 : Int, ∃ s65 : ByteArray, ∃ b66 : Bool, ∃ i67 : Int, ∃ i68 : Int, ∃ i69 : Int, ∃ i70 : Int, ∃ i71 : Int, ∃ i72 : Int, ∃ i73 : Int, ∃ (p74 : Option Addr) (n75 c76 : Nat), ldN h59 b62 (o63 + Int.toNat i61 * 11) 11 = some ([(.int .u64 i64), (.string s65), (.bool b66), (.int .u64 i67), (.int .u64 i68), (.int .u64 i69), (.int .i64 i70), (.int .i64 i71), (.int .u64 i72), (.int .u32 i73), (.slice p74 n75 c76)] : List Value) ∧
    (∀ h77 : AH, h77 = h59.alloc (.cells ([(.int .u64 0), (.string (ByteArray.mk #[])), (.bool false), (.int .u64 0), (.int .u64 0), (.int .u64 0), (.int .i64 0), (.int .i64 0), (.int .u64 0), (.int .u32 0), (.slice none 0 0)] : List Value) 28 false) →
    (List.length ([(.int .u64 i64), (.string s65), (.bool b66), (.int .u64 i67), (.int .u64 i68), (.int .u64 i69), (.int .i64 i70), (.int .i64 i71), (.int .u64 i72), (.int .u32 i73), (.slice p74 n75 c76)] : List Value) = 11) ∧ ∃ h78 : AH, stN h77 h59.next 0 ([(.int .u64 i64), (.string s65), (.bool b66), (.int .u64 i67), (.int .u64 i68), (.int .u64 i69), (.int .i64 i70), (.int .i64 i71), (.int .u64 i72), (.int .u32 i73), (.slice p74 n75 c76)] : List Value) = some h78 ∧
    (((ld1 h78 h59.next 2 = some (.bool true) ∧
    (∃ i79 : Int, ld1 h78 h59.next 3 = some (.int .u64 i79) ∧
    (∃ i80 : Int, ld1 h78 h8.next 0 = some (.int .u64 i80) ∧
    (((i79 : Int) = i80 → ∃ s81 : ByteArray, ld1 h78 h59.next 1 = some (.string s81) ∧
    ((s81 = s4 → ∃ i82 : Int, ∃ s83 : ByteArray, ∃ b84 : Bool, ∃ i85 : Int, ∃ i86 : Int, ∃ i87 : Int, ∃ i88 : Int, ∃ i89 : Int, ∃ i90 : Int, ∃ i91 : Int, ∃ (p92 : Option Addr) (n93 c94 : Nat), ldN h78 h59.next 0 11 = some ([(.int .u64 i82), (.string s83), (.bool b84), (.int .u64 i85), (.int .u64 i86), (.int .u64 i87), (.int .i64 i88), (.int .i64 i89), (.int .u64 i90), (.int .u32 i91), (.slice p92 n93 c94)] : List Value) ∧
    ((List.length ([(.int .u64 i82), (.string s83), (.bool b84), (.int .u64 i85), (.int .u64 i86), (.int .u64 i87), (.int .i64 i88), (.int .i64 i89), (.int .u64 i90), (.int .u32 i91), (.slice p92 n93 c94)] : List Value) = 11) ∧ ∃ h95 : AH, stN h78 h.next 0 ([(.int .u64 i82), (.string s83), (.bool b84), (.int .u64 i85), (.int .u64 i86), (.int .u64 i87), (.int .i64 i88), (.int .i64 i89), (.int .u64 i90), (.int .u32 i91), (.slice p92 n93 c94)] : List Value) = some h95 ∧
    (∃ i96 : Int, ∃ s97 : ByteArray, ∃ b98 : Bool, ∃ i99 : Int, ∃ i100 : Int, ∃ i101 : Int, ∃ i102 : Int, ∃ i103 : Int, ∃ i104 : Int, ∃ i105 : Int, ∃ (p106 : Option Addr) (n107 c108 : Nat), ldN h95 h.next 0 11 = some ([(.int .u64 i96), (.string s97), (.bool b98), (.int .u64 i99), (.int .u64 i100), (.int .u64 i101), (.int .i64 i102), (.int .i64 i103), (.int .u64 i104), (.int .u32 i105), (.slice p106 n107 c108)] : List Value) ∧
    (Q (.tuple #[(.agg #[(.int .u64 i96), (.string s97), (.bool b98), (.int .u64 i99), (.int .u64 i100), (.int .u64 i101), (.int .i64 i102), (.int .i64 i103), (.int .u64 i104), (.int .u32 i105), (.slice p106 n107 c108)]), (.int .i64 0)]) h95)))) ∧
    (¬ s81 = s4 → ∀ i109 : Int, i109 = IntKind.wrap .i64 (i61 + 1) → ∃ j60, j60 < k58 ∧ I57 i109 j60 h78))) ∧
    (¬ (i79 : Int) = i80 → ∀ i110 : Int, i110 = IntKind.wrap .i64 (i61 + 1) → ∃ j60, j60 < k58 ∧ I57 i110 j60 h78))))) ∨ (ld1 h78 h59.next 2 = some (.bool false) ∧
    (∀ i111 : Int, i111 = IntKind.wrap .i64 (i61 + 1) → ∃ j60, j60 < k58 ∧ I57 i111 j60 h78)))))))) ∧
    (¬ (i61 : Int) < ((na0 : Nat) : Int) → ∀ i112 : Int, i112 = IntKind.wrap .i64 (i10 + 1) → ∃ j9, j9 < k7 ∧ I6 i112 j9 h59))) ∧
    (¬ s29 = s3 → ∀ i113 : Int, i113 = IntKind.wrap .i64 (i10 + 1) → ∃ j9, j9 < k7 ∧ I6 i113 j9 h27)))))))))) ∧
    (¬ (i10 : Int) < ((na0 : Nat) : Int) → (List.length ([(.int .u64 0), (.string (ByteArray.mk #[])), (.bool false), (.int .u64 0), (.int .u64 0), (.int .u64 0), (.int .i64 0), (.int .i64 0), (.int .u64 0), (.int .u32 0), (.slice none 0 0)] : List Value) = 11) ∧ ∃ h114 : AH, stN h8 h.next 0 ([(.int .u64 0), (.string (ByteArray.mk #[])), (.bool false), (.int .u64 0), (.int .u64 0), (.int .u64 0), (.int .i64 0), (.int .i64 0), (.int .u64 0), (.int .u32 0), (.slice none 0 0)] : List Value) = some h114 ∧
    (∃ i115 : Int, ∃ s116 : ByteArray, ∃ b117 : Bool, ∃ i118 : Int, ∃ i119 : Int, ∃ i120 : Int, ∃ i121 : Int, ∃ i122 : Int, ∃ i123 : Int, ∃ i124 : Int, ∃ (p125 : Option Addr) (n126 c127 : Nat), ldN h114 h.next 0 11 = some ([(.int .u64 i115), (.string s116), (.bool b117), (.int .u64 i118), (.int .u64 i119), (.int .u64 i120), (.int .i64 i121), (.int .i64 i122), (.int .u64 i123), (.int .u32 i124), (.slice p125 n126 c127)] : List Value) ∧
    (Q (.tuple #[(.agg #[(.int .u64 i115), (.string s116), (.bool b117), (.int .u64 i118), (.int .u64 i119), (.int .u64 i120), (.int .i64 i121), (.int .i64 i122), (.int .u64 i123), (.int .u32 i124), (.slice p125 n126 c127)]), (.int .i64 161)]) h114)))) ∧
    (¬ (i5 : Int) = 0 → (List.length ([(.int .u64 0), (.string (ByteArray.mk #[])), (.bool false), (.int .u64 0), (.int .u64 0), (.int .u64 0), (.int .i64 0), (.int .i64 0), (.int .u64 0), (.int .u32 0), (.slice none 0 0)] : List Value) = 11) ∧ ∃ h128 : AH, stN h2 h.next 0 ([(.int .u64 0), (.string (ByteArray.mk #[])), (.bool false), (.int .u64 0), (.int .u64 0), (.int .u64 0), (.int .i64 0), (.int .i64 0), (.int .u64 0), (.int .u32 0), (.slice none 0 0)] : List Value) = some h128 ∧
    (∃ i129 : Int, ∃ s130 : ByteArray, ∃ b131 : Bool, ∃ i132 : Int, ∃ i133 : Int, ∃ i134 : Int, ∃ i135 : Int, ∃ i136 : Int, ∃ i137 : Int, ∃ i138 : Int, ∃ (p139 : Option Addr) (n140 c141 : Nat), ldN h128 h.next 0 11 = some ([(.int .u64 i129), (.string s130), (.bool b131), (.int .u64 i132), (.int .u64 i133), (.int .u64 i134), (.int .i64 i135), (.int .i64 i136), (.int .u64 i137), (.int .u32 i138), (.slice p139 n140 c141)] : List Value) ∧
    (Q (.tuple #[(.agg #[(.int .u64 i129), (.string s130), (.bool b131), (.int .u64 i132), (.int .u64 i133), (.int .u64 i134), (.int .i64 i135), (.int .i64 i136), (.int .u64 i137), (.int .u32 i138), (.slice p139 n140 c141)]), (.int .i64 141)]) h128)))))) :
    Wf Try.prog K 26 [(.slice pa0 na0 ca0), (.string sa1)] h Q :=
  vcF_sound (hs := [(5, [(24, .int .i64 0)]), (11, [(41, .int .i64 0)])]) hk (Eq.mpr (by kernel_rfl) H)
theorem vc_aquiferref16_Full {K : Xs} (hk : K 28 = none) (pa0 : Option Addr) (na0 ca0 : Nat) (ia1 : Int) (h : AH) (Q : Value → AH → Prop) (H :
    Wf Try.prog K 25 [(.slice pa0 na0 ca0), (.int .u64 ia1)] h fun r0 h1 =>
    (∃ i2 : Int, ∃ s3 : ByteArray, ∃ b4 : Bool, ∃ i5 : Int, ∃ i6 : Int, ∃ i7 : Int, ∃ i8 : Int, ∃ i9 : Int, ∃ i10 : Int, ∃ i11 : Int, ∃ (p12 : Option Addr) (n13 c14 : Nat), ((r0 = (.tuple #[(.agg #[(.int .u64 i2), (.string s3), (.bool b4), (.int .u64 i5), (.int .u64 i6), (.int .u64 i7), (.int .i64 i8), (.int .i64 i9), (.int .u64 i10), (.int .u32 i11), (.slice p12 n13 c14)]), (.bool true)]) ∧
    (∀ h15 : AH, h15 = h1.alloc (.cells ([(.int .u64 0), (.string (ByteArray.mk #[])), (.bool false), (.int .u64 0), (.int .u64 0), (.int .u64 0), (.int .i64 0), (.int .i64 0), (.int .u64 0), (.int .u32 0), (.slice none 0 0)] : List Value) 28 false) →
    (List.length ([(.int .u64 i2), (.string s3), (.bool b4), (.int .u64 i5), (.int .u64 i6), (.int .u64 i7), (.int .i64 i8), (.int .i64 i9), (.int .u64 i10), (.int .u32 i11), (.slice p12 n13 c14)] : List Value) = 11) ∧ ∃ h16 : AH, stN h15 h1.next 0 ([(.int .u64 i2), (.string s3), (.bool b4), (.int .u64 i5), (.int .u64 i6), (.int .u64 i7), (.int .i64 i8), (.int .i64 i9), (.int .u64 i10), (.int .u32 i11), (.slice p12 n13 c14)] : List Value) = some h16 ∧
    (((ld1 h16 h1.next 2 = some (.bool true) ∧
    (∃ i17 : Int, ld1 h16 h1.next 3 = some (.int .u64 i17) ∧
    (Wf Try.prog K 25 [(.slice pa0 na0 ca0), (.int .u64 i17)] h16 fun r18 h19 =>
    (∃ i20 : Int, ∃ s21 : ByteArray, ∃ b22 : Bool, ∃ i23 : Int, ∃ i24 : Int, ∃ i25 : Int, ∃ i26 : Int, ∃ i27 : Int, ∃ i28 : Int, ∃ i29 : Int, ∃ (p30 : Option Addr) (n31 c32 : Nat), ((r18 = (.tuple #[(.agg #[(.int .u64 i20), (.string s21), (.bool b22), (.int .u64 i23), (.int .u64 i24), (.int .u64 i25), (.int .i64 i26), (.int .i64 i27), (.int .u64 i28), (.int .u32 i29), (.slice p30 n31 c32)]), (.bool true)]) ∧
    (∀ h33 : AH, h33 = h19.alloc (.cells ([(.int .u64 0), (.string (ByteArray.mk #[])), (.bool false), (.int .u64 0), (.int .u64 0), (.int .u64 0), (.int .i64 0), (.int .i64 0), (.int .u64 0), (.int .u32 0), (.slice none 0 0)] : List Value) 28 false) →
    (List.length ([(.int .u64 i20), (.string s21), (.bool b22), (.int .u64 i23), (.int .u64 i24), (.int .u64 i25), (.int .i64 i26), (.int .i64 i27), (.int .u64 i28), (.int .u32 i29), (.slice p30 n31 c32)] : List Value) = 11) ∧ ∃ h34 : AH, stN h33 h19.next 0 ([(.int .u64 i20), (.string s21), (.bool b22), (.int .u64 i23), (.int .u64 i24), (.int .u64 i25), (.int .i64 i26), (.int .i64 i27), (.int .u64 i28), (.int .u32 i29), (.slice p30 n31 c32)] : List Value) = some h34 ∧
    (∃ s35 : ByteArray, ld1 h34 h19.next 1 = some (.string s35) ∧
    ((((ByteArray.size s35 + ByteArray.size (ByteArray.mk #[64]) : Nat) : Int) ≤ 9223372036854775807) ∧ ∀ s36 : ByteArray, s36 = s35 ++ (ByteArray.mk #[64]) → ∃ s37 : ByteArray, ld1 h34 h1.next 1 = some (.string s37) ∧
    ((((ByteArray.size s36 + ByteArray.size s37 : Nat) : Int) ≤ 9223372036854775807) ∧ ∀ s38 : ByteArray, s38 = s36 ++ s37 → Q (.string s38) h34))))) ∨ (r18 = (.tuple #[(.agg #[(.int .u64 i20), (.string s21), (.bool b22), (.int .u64 i23), (.int .u64 i24), (.int .u64 i25), (.int .i64 i26), (.int .i64 i27), (.int .u64 i28), (.int .u32 i29), (.slice p30 n31 c32)]), (.bool false)]) ∧
    (∀ h39 : AH, h39 = h19.alloc (.cells ([(.int .u64 0), (.string (ByteArray.mk #[])), (.bool false), (.int .u64 0), (.int .u64 0), (.int .u64 0), (.int .i64 0), (.int .i64 0), (.int .u64 0), (.int .u32 0), (.slice none 0 0)] : List Value) 28 false) →
    (List.length ([(.int .u64 i20), (.string s21), (.bool b22), (.int .u64 i23), (.int .u64 i24), (.int .u64 i25), (.int .i64 i26), (.int .i64 i27), (.int .u64 i28), (.int .u32 i29), (.slice p30 n31 c32)] : List Value) = 11) ∧ ∃ h40 : AH, stN h39 h19.next 0 ([(.int .u64 i20), (.string s21), (.bool b22), (.int .u64 i23), (.int .u64 i24), (.int .u64 i25), (.int .i64 i26), (.int .i64 i27), (.int .u64 i28), (.int .u32 i29), (.slice p30 n31 c32)] : List Value) = some h40 ∧
    (∃ s41 : ByteArray, ld1 h40 h19.next 1 = some (.string s41) ∧
    ((((ByteArray.size s41 + ByteArray.size (ByteArray.mk #[64]) : Nat) : Int) ≤ 9223372036854775807) ∧ ∀ s42 : ByteArray, s42 = s41 ++ (ByteArray.mk #[64]) → ∃ s43 : ByteArray, ld1 h40 h1.next 1 = some (.string s43) ∧
    ((((ByteArray.size s42 + ByteArray.size s43 : Nat) : Int) ≤ 9223372036854775807) ∧ ∀ s44 : ByteArray, s44 = s42 ++ s43 → Q (.string s44) h40)))))))))) ∨ (ld1 h16 h1.next 2 = some (.bool false) ∧
    (∃ s45 : ByteArray, ld1 h16 h1.next 1 = some (.string s45) ∧
    (Q (.string s45) h16))))))) ∨ (r0 = (.tuple #[(.agg #[(.int .u64 i2), (.string s3), (.bool b4), (.int .u64 i5), (.int .u64 i6), (.int .u64 i7), (.int .i64 i8), (.int .i64 i9), (.int .u64 i10), (.int .u32 i11), (.slice p12 n13 c14)]), (.bool false)]) ∧
    (∀ h46 : AH, h46 = h1.alloc (.cells ([(.int .u64 0), (.string (ByteArray.mk #[])), (.bool false), (.int .u64 0), (.int .u64 0), (.int .u64 0), (.int .i64 0), (.int .i64 0), (.int .u64 0), (.int .u32 0), (.slice none 0 0)] : List Value) 28 false) →
    (List.length ([(.int .u64 i2), (.string s3), (.bool b4), (.int .u64 i5), (.int .u64 i6), (.int .u64 i7), (.int .i64 i8), (.int .i64 i9), (.int .u64 i10), (.int .u32 i11), (.slice p12 n13 c14)] : List Value) = 11) ∧ ∃ h47 : AH, stN h46 h1.next 0 ([(.int .u64 i2), (.string s3), (.bool b4), (.int .u64 i5), (.int .u64 i6), (.int .u64 i7), (.int .i64 i8), (.int .i64 i9), (.int .u64 i10), (.int .u32 i11), (.slice p12 n13 c14)] : List Value) = some h47 ∧
    (Q (.string (ByteArray.mk #[])) h47)))))) :
    Wf Try.prog K 28 [(.slice pa0 na0 ca0), (.int .u64 ia1)] h Q :=
  vcF_sound (hs := []) hk (Eq.mpr (by kernel_rfl) H)
theorem vc_aquiferref16_Kids {K : Xs} (hk : K 29 = none) (pa0 : Option Addr) (na0 ca0 : Nat) (ia1 : Int) (h : AH) (Q : Value → AH → Prop) (H :
    ∀ h0 : AH, h0 = h.alloc (.cells ([] : List Value) 22 false) →
    ∀ h1 : AH, h1 = h0.alloc (.cells ([] : List Value) 22 false) →
    Wf Try.prog K 25 [(.slice pa0 na0 ca0), (.int .u64 ia1)] h1 fun r2 h3 =>
    (∃ i4 : Int, ∃ s5 : ByteArray, ∃ b6 : Bool, ∃ i7 : Int, ∃ i8 : Int, ∃ i9 : Int, ∃ i10 : Int, ∃ i11 : Int, ∃ i12 : Int, ∃ i13 : Int, ∃ (p14 : Option Addr) (n15 c16 : Nat), ((r2 = (.tuple #[(.agg #[(.int .u64 i4), (.string s5), (.bool b6), (.int .u64 i7), (.int .u64 i8), (.int .u64 i9), (.int .i64 i10), (.int .i64 i11), (.int .u64 i12), (.int .u32 i13), (.slice p14 n15 c16)]), (.bool true)]) ∧
    (∀ h17 : AH, h17 = h3.alloc (.cells ([(.int .u64 0), (.string (ByteArray.mk #[])), (.bool false), (.int .u64 0), (.int .u64 0), (.int .u64 0), (.int .i64 0), (.int .i64 0), (.int .u64 0), (.int .u32 0), (.slice none 0 0)] : List Value) 28 false) →
    (List.length ([(.int .u64 i4), (.string s5), (.bool b6), (.int .u64 i7), (.int .u64 i8), (.int .u64 i9), (.int .i64 i10), (.int .i64 i11), (.int .u64 i12), (.int .u32 i13), (.slice p14 n15 c16)] : List Value) = 11) ∧ ∃ h18 : AH, stN h17 h3.next 0 ([(.int .u64 i4), (.string s5), (.bool b6), (.int .u64 i7), (.int .u64 i8), (.int .u64 i9), (.int .i64 i10), (.int .i64 i11), (.int .u64 i12), (.int .u32 i13), (.slice p14 n15 c16)] : List Value) = some h18 ∧
    (((ld1 h18 h3.next 2 = some (.bool true) ∧
    (∃ I19 : Option Addr → Nat → Nat → Option Addr → Nat → Nat → Int → Nat → AH → Prop, (∃ n, I19 (some ⟨h.next, 0, none⟩) 0 0 (some ⟨h0.next, 0, none⟩) 0 0 0 n h18) ∧
    ∀ (k20 : Nat) (h21 : AH) (p23 : Option Addr) (n24 : Nat) (c25 : Nat) (p26 : Option Addr) (n27 : Nat) (c28 : Nat) (i29 : Int), I19 p23 n24 c25 p26 n27 c28 i29 k20 h21 →
    ((i29 : Int) < ((na0 : Nat) : Int) → derefP pa0 fun b30 o31 => (((0 : Int) ≤ i29) ∧ ((i29 : Int) < ((na0 : Nat) : Int)) ∧
    (∃ i32 : Int, ∃ s33 : ByteArray, ∃ b34 : Bool, ∃ i35 : Int, ∃ i36 : Int, ∃ i37 : Int, ∃ i38 : Int, ∃ i39 : Int, ∃ i40 : Int, ∃ i41 : Int, ∃ (p42 : Option Addr) (n43 c44 : Nat), ldN h21 b30 (o31 + Int.toNat i29 * 11) 11 = some ([(.int .u64 i32), (.string s33), (.bool b34), (.int .u64 i35), (.int .u64 i36), (.int .u64 i37), (.int .i64 i38), (.int .i64 i39), (.int .u64 i40), (.int .u32 i41), (.slice p42 n43 c44)] : List Value) ∧
    (∀ h45 : AH, h45 = h21.alloc (.cells ([(.int .u64 0), (.string (ByteArray.mk #[])), (.bool false), (.int .u64 0), (.int .u64 0), (.int .u64 0), (.int .i64 0), (.int .i64 0), (.int .u64 0), (.int .u32 0), (.slice none 0 0)] : List Value) 28 false) →
    (List.length ([(.int .u64 i32), (.string s33), (.bool b34), (.int .u64 i35), (.int .u64 i36), (.int .u64 i37), (.int .i64 i38), (.int .i64 i39), (.int .u64 i40), (.int .u32 i41), (.slice p42 n43 c44)] : List Value) = 11) ∧ ∃ h46 : AH, stN h45 h21.next 0 ([(.int .u64 i32), (.string s33), (.bool b34), (.int .u64 i35), (.int .u64 i36), (.int .u64 i37), (.int .i64 i38), (.int .i64 i39), (.int .u64 i40), (.int .u32 i41), (.slice p42 n43 c44)] : List Value) = some h46 ∧
    (∃ i47 : Int, ld1 h46 h21.next 4 = some (.int .u64 i47) ∧
    (((i47 : Int) = ia1 → ∃ i48 : Int, ld1 h46 h21.next 3 = some (.int .u64 i48) ∧
    (∃ i49 : Int, ld1 h46 h3.next 3 = some (.int .u64 i49) ∧
    (((i48 : Int) = i49 → ∃ i50 : Int, ld1 h46 h21.next 0 = some (.int .u64 i50) ∧
    (∀ h51 : AH, h51 = h46.alloc (.cells ([(.int .u64 i50)] : List Value) 22 false) →
    ∃ (p52 : Option Addr) (n53 c54 : Nat) (h55 : AH), aBuiltin Try.prog h51 .append #[39, 39] [(.slice p23 n24 c25), (.slice (some ⟨h46.next, 0, none⟩) 1 1)] = some (.slice p52 n53 c54, h55) ∧
    (∀ i56 : Int, i56 = IntKind.wrap .i64 (i29 + 1) → ∃ j22, j22 < k20 ∧ I19 p52 n53 c54 p26 n27 c28 i56 j22 h55))) ∧
    (¬ (i48 : Int) = i49 → ∃ i57 : Int, ld1 h46 h21.next 4 = some (.int .u64 i57) ∧
    (((i57 : Int) = ia1 → ∃ i58 : Int, ld1 h46 h21.next 0 = some (.int .u64 i58) ∧
    (∀ h59 : AH, h59 = h46.alloc (.cells ([(.int .u64 i58)] : List Value) 22 false) →
    ∃ (p60 : Option Addr) (n61 c62 : Nat) (h63 : AH), aBuiltin Try.prog h59 .append #[39, 39] [(.slice p26 n27 c28), (.slice (some ⟨h46.next, 0, none⟩) 1 1)] = some (.slice p60 n61 c62, h63) ∧
    (∀ i64 : Int, i64 = IntKind.wrap .i64 (i29 + 1) → ∃ j22, j22 < k20 ∧ I19 p23 n24 c25 p60 n61 c62 i64 j22 h63))) ∧
    (¬ (i57 : Int) = ia1 → ∀ i65 : Int, i65 = IntKind.wrap .i64 (i29 + 1) → ∃ j22, j22 < k20 ∧ I19 p23 n24 c25 p26 n27 c28 i65 j22 h46)))))) ∧
    (¬ (i47 : Int) = ia1 → ∃ i66 : Int, ld1 h46 h21.next 4 = some (.int .u64 i66) ∧
    (((i66 : Int) = ia1 → ∃ i67 : Int, ld1 h46 h21.next 0 = some (.int .u64 i67) ∧
    (∀ h68 : AH, h68 = h46.alloc (.cells ([(.int .u64 i67)] : List Value) 22 false) →
    ∃ (p69 : Option Addr) (n70 c71 : Nat) (h72 : AH), aBuiltin Try.prog h68 .append #[39, 39] [(.slice p26 n27 c28), (.slice (some ⟨h46.next, 0, none⟩) 1 1)] = some (.slice p69 n70 c71, h72) ∧
    (∀ i73 : Int, i73 = IntKind.wrap .i64 (i29 + 1) → ∃ j22, j22 < k20 ∧ I19 p23 n24 c25 p69 n70 c71 i73 j22 h72))) ∧
    (¬ (i66 : Int) = ia1 → ∀ i74 : Int, i74 = IntKind.wrap .i64 (i29 + 1) → ∃ j22, j22 < k20 ∧ I19 p23 n24 c25 p26 n27 c28 i74 j22 h46))))))))) ∧
    (¬ (i29 : Int) < ((na0 : Nat) : Int) → Q (.tuple #[(.slice p23 n24 c25), (.slice p26 n27 c28)]) h21))) ∨ (ld1 h18 h3.next 2 = some (.bool false) ∧
    (Q (.tuple #[(.slice (some ⟨h.next, 0, none⟩) 0 0), (.slice (some ⟨h0.next, 0, none⟩) 0 0)]) h18)))))) ∨ (r2 = (.tuple #[(.agg #[(.int .u64 i4), (.string s5), (.bool b6), (.int .u64 i7), (.int .u64 i8), (.int .u64 i9), (.int .i64 i10), (.int .i64 i11), (.int .u64 i12), (.int .u32 i13), (.slice p14 n15 c16)]), (.bool false)]) ∧
    (∀ h75 : AH, h75 = h3.alloc (.cells ([(.int .u64 0), (.string (ByteArray.mk #[])), (.bool false), (.int .u64 0), (.int .u64 0), (.int .u64 0), (.int .i64 0), (.int .i64 0), (.int .u64 0), (.int .u32 0), (.slice none 0 0)] : List Value) 28 false) →
    (List.length ([(.int .u64 i4), (.string s5), (.bool b6), (.int .u64 i7), (.int .u64 i8), (.int .u64 i9), (.int .i64 i10), (.int .i64 i11), (.int .u64 i12), (.int .u32 i13), (.slice p14 n15 c16)] : List Value) = 11) ∧ ∃ h76 : AH, stN h75 h3.next 0 ([(.int .u64 i4), (.string s5), (.bool b6), (.int .u64 i7), (.int .u64 i8), (.int .u64 i9), (.int .i64 i10), (.int .i64 i11), (.int .u64 i12), (.int .u32 i13), (.slice p14 n15 c16)] : List Value) = some h76 ∧
    (Q (.tuple #[(.slice (some ⟨h.next, 0, none⟩) 0 0), (.slice (some ⟨h0.next, 0, none⟩) 0 0)]) h76)))))) :
    Wf Try.prog K 29 [(.slice pa0 na0 ca0), (.int .u64 ia1)] h Q :=
  vcF_sound (hs := [(7, [(6, .slice none 0 0), (7, .slice none 0 0), (31, .int .i64 0)])]) hk (Eq.mpr (by kernel_rfl) H)
theorem vc_aquiferref16_Next {K : Xs} (hk : K 31 = none) (pa0 : Option Addr) (na0 ca0 : Nat) (ia1 : Int) (h : AH) (Q : Value → AH → Prop) (H :
    Wf Try.prog K 29 [(.slice pa0 na0 ca0), (.int .u64 ia1)] h fun r0 h1 =>
    (∃ (p2 : Option Addr) (n3 c4 : Nat), ∃ (p5 : Option Addr) (n6 c7 : Nat), r0 = (.tuple #[(.slice p2 n3 c4), (.slice p5 n6 c7)]) ∧
    (((((n3 : Nat) : Int) : Int) = 0 → Q (.int .u64 0) h1) ∧
    (¬ (((n3 : Nat) : Int) : Int) = 0 → derefP p2 fun b8 o9 => (((0 : Int) ≤ 0) ∧ ((0 : Int) < ((n3 : Nat) : Int)) ∧
    (∃ i10 : Int, ld1 h1 b8 o9 = some (.int .u64 i10) ∧
    (Q (.int .u64 i10) h1))))))) :
    Wf Try.prog K 31 [(.slice pa0 na0 ca0), (.int .u64 ia1)] h Q :=
  vcF_sound (hs := []) hk (Eq.mpr (by kernel_rfl) H)
theorem vc_aquiferref16_Back {K : Xs} (hk : K 30 = none) (pa0 : Option Addr) (na0 ca0 : Nat) (ia1 : Int) (h : AH) (Q : Value → AH → Prop) (H :
    ∀ h0 : AH, h0 = h.alloc (.cells ([] : List Value) 22 false) →
    Wf Try.prog K 25 [(.slice pa0 na0 ca0), (.int .u64 ia1)] h0 fun r1 h2 =>
    (∃ i3 : Int, ∃ s4 : ByteArray, ∃ b5 : Bool, ∃ i6 : Int, ∃ i7 : Int, ∃ i8 : Int, ∃ i9 : Int, ∃ i10 : Int, ∃ i11 : Int, ∃ i12 : Int, ∃ (p13 : Option Addr) (n14 c15 : Nat), ((r1 = (.tuple #[(.agg #[(.int .u64 i3), (.string s4), (.bool b5), (.int .u64 i6), (.int .u64 i7), (.int .u64 i8), (.int .i64 i9), (.int .i64 i10), (.int .u64 i11), (.int .u32 i12), (.slice p13 n14 c15)]), (.bool true)]) ∧
    (∀ h16 : AH, h16 = h2.alloc (.cells ([(.int .u64 0), (.string (ByteArray.mk #[])), (.bool false), (.int .u64 0), (.int .u64 0), (.int .u64 0), (.int .i64 0), (.int .i64 0), (.int .u64 0), (.int .u32 0), (.slice none 0 0)] : List Value) 28 false) →
    (List.length ([(.int .u64 i3), (.string s4), (.bool b5), (.int .u64 i6), (.int .u64 i7), (.int .u64 i8), (.int .i64 i9), (.int .i64 i10), (.int .u64 i11), (.int .u32 i12), (.slice p13 n14 c15)] : List Value) = 11) ∧ ∃ h17 : AH, stN h16 h2.next 0 ([(.int .u64 i3), (.string s4), (.bool b5), (.int .u64 i6), (.int .u64 i7), (.int .u64 i8), (.int .i64 i9), (.int .i64 i10), (.int .u64 i11), (.int .u32 i12), (.slice p13 n14 c15)] : List Value) = some h17 ∧
    (((ld1 h17 h2.next 2 = some (.bool true) ∧
    (Q (.tuple #[(.slice (some ⟨h.next, 0, none⟩) 0 0), (.int .u64 0)]) h17)) ∨ (ld1 h17 h2.next 2 = some (.bool false) ∧
    (∃ i18 : Int, ld1 h17 h2.next 4 = some (.int .u64 i18) ∧
    (∃ I19 : Option Addr → Nat → Nat → Int → Int → Nat → AH → Prop, (∃ n, I19 (some ⟨h.next, 0, none⟩) 0 0 i18 0 n h17) ∧
    ∀ (k20 : Nat) (h21 : AH) (p23 : Option Addr) (n24 : Nat) (c25 : Nat) (i26 : Int) (i27 : Int), I19 p23 n24 c25 i26 i27 k20 h21 →
    ((i27 : Int) < ((na0 : Nat) : Int) → Wf Try.prog K 25 [(.slice pa0 na0 ca0), (.int .u64 i26)] h21 fun r28 h29 =>
    (∃ i30 : Int, ∃ s31 : ByteArray, ∃ b32 : Bool, ∃ i33 : Int, ∃ i34 : Int, ∃ i35 : Int, ∃ i36 : Int, ∃ i37 : Int, ∃ i38 : Int, ∃ i39 : Int, ∃ (p40 : Option Addr) (n41 c42 : Nat), ((r28 = (.tuple #[(.agg #[(.int .u64 i30), (.string s31), (.bool b32), (.int .u64 i33), (.int .u64 i34), (.int .u64 i35), (.int .i64 i36), (.int .i64 i37), (.int .u64 i38), (.int .u32 i39), (.slice p40 n41 c42)]), (.bool true)]) ∧
    (∀ h43 : AH, h43 = h29.alloc (.cells ([(.int .u64 0), (.string (ByteArray.mk #[])), (.bool false), (.int .u64 0), (.int .u64 0), (.int .u64 0), (.int .i64 0), (.int .i64 0), (.int .u64 0), (.int .u32 0), (.slice none 0 0)] : List Value) 28 false) →
    (List.length ([(.int .u64 i30), (.string s31), (.bool b32), (.int .u64 i33), (.int .u64 i34), (.int .u64 i35), (.int .i64 i36), (.int .i64 i37), (.int .u64 i38), (.int .u32 i39), (.slice p40 n41 c42)] : List Value) = 11) ∧ ∃ h44 : AH, stN h43 h29.next 0 ([(.int .u64 i30), (.string s31), (.bool b32), (.int .u64 i33), (.int .u64 i34), (.int .u64 i35), (.int .i64 i36), (.int .i64 i37), (.int .u64 i38), (.int .u32 i39), (.slice p40 n41 c42)] : List Value) = some h44 ∧
    (∃ i45 : Int, ld1 h44 h29.next 3 = some (.int .u64 i45) ∧
    (((i45 : Int) = ia1 → ∀ h46 : AH, h46 = h44.alloc (.cells ([(.int .u64 i26)] : List Value) 22 false) →
    ∃ (p47 : Option Addr) (n48 c49 : Nat) (h50 : AH), aBuiltin Try.prog h46 .append #[39, 39] [(.slice p23 n24 c25), (.slice (some ⟨h44.next, 0, none⟩) 1 1)] = some (.slice p47 n48 c49, h50) ∧
    (∃ i51 : Int, ld1 h50 h29.next 4 = some (.int .u64 i51) ∧
    (∀ i52 : Int, i52 = IntKind.wrap .i64 (i27 + 1) → ∃ j22, j22 < k20 ∧ I19 p47 n48 c49 i51 i52 j22 h50))) ∧
    (¬ (i45 : Int) = ia1 → Q (.tuple #[(.slice p23 n24 c25), (.int .u64 i26)]) h44))))) ∨ (r28 = (.tuple #[(.agg #[(.int .u64 i30), (.string s31), (.bool b32), (.int .u64 i33), (.int .u64 i34), (.int .u64 i35), (.int .i64 i36), (.int .i64 i37), (.int .u64 i38), (.int .u32 i39), (.slice p40 n41 c42)]), (.bool false)]) ∧
    (∀ h53 : AH, h53 = h29.alloc (.cells ([(.int .u64 0), (.string (ByteArray.mk #[])), (.bool false), (.int .u64 0), (.int .u64 0), (.int .u64 0), (.int .i64 0), (.int .i64 0), (.int .u64 0), (.int .u32 0), (.slice none 0 0)] : List Value) 28 false) →
    (List.length ([(.int .u64 i30), (.string s31), (.bool b32), (.int .u64 i33), (.int .u64 i34), (.int .u64 i35), (.int .i64 i36), (.int .i64 i37), (.int .u64 i38), (.int .u32 i39), (.slice p40 n41 c42)] : List Value) = 11) ∧ ∃ h54 : AH, stN h53 h29.next 0 ([(.int .u64 i30), (.string s31), (.bool b32), (.int .u64 i33), (.int .u64 i34), (.int .u64 i35), (.int .i64 i36), (.int .i64 i37), (.int .u64 i38), (.int .u32 i39), (.slice p40 n41 c42)] : List Value) = some h54 ∧
    (Q (.tuple #[(.slice p23 n24 c25), (.int .u64 i26)]) h54)))))) ∧
    (¬ (i27 : Int) < ((na0 : Nat) : Int) → Q (.tuple #[(.slice p23 n24 c25), (.int .u64 i26)]) h21)))))))) ∨ (r1 = (.tuple #[(.agg #[(.int .u64 i3), (.string s4), (.bool b5), (.int .u64 i6), (.int .u64 i7), (.int .u64 i8), (.int .i64 i9), (.int .i64 i10), (.int .u64 i11), (.int .u32 i12), (.slice p13 n14 c15)]), (.bool false)]) ∧
    (∀ h55 : AH, h55 = h2.alloc (.cells ([(.int .u64 0), (.string (ByteArray.mk #[])), (.bool false), (.int .u64 0), (.int .u64 0), (.int .u64 0), (.int .i64 0), (.int .i64 0), (.int .u64 0), (.int .u32 0), (.slice none 0 0)] : List Value) 28 false) →
    (List.length ([(.int .u64 i3), (.string s4), (.bool b5), (.int .u64 i6), (.int .u64 i7), (.int .u64 i8), (.int .i64 i9), (.int .i64 i10), (.int .u64 i11), (.int .u32 i12), (.slice p13 n14 c15)] : List Value) = 11) ∧ ∃ h56 : AH, stN h55 h2.next 0 ([(.int .u64 i3), (.string s4), (.bool b5), (.int .u64 i6), (.int .u64 i7), (.int .u64 i8), (.int .i64 i9), (.int .i64 i10), (.int .u64 i11), (.int .u32 i12), (.slice p13 n14 c15)] : List Value) = some h56 ∧
    (Q (.tuple #[(.slice (some ⟨h.next, 0, none⟩) 0 0), (.int .u64 0)]) h56)))))) :
    Wf Try.prog K 30 [(.slice pa0 na0 ca0), (.int .u64 ia1)] h Q :=
  vcF_sound (hs := [(7, [(6, .slice none 0 0), (9, .int .u64 0), (10, .int .i64 0)])]) hk (Eq.mpr (by kernel_rfl) H)
theorem vc_aquiferref16_Floor {K : Xs} (hk : K 33 = none) (pa0 : Option Addr) (na0 ca0 : Nat) (ia1 : Int) (h : AH) (Q : Value → AH → Prop) (H :
    Wf Try.prog K 25 [(.slice pa0 na0 ca0), (.int .u64 ia1)] h fun r0 h1 =>
    (∃ i2 : Int, ∃ s3 : ByteArray, ∃ b4 : Bool, ∃ i5 : Int, ∃ i6 : Int, ∃ i7 : Int, ∃ i8 : Int, ∃ i9 : Int, ∃ i10 : Int, ∃ i11 : Int, ∃ (p12 : Option Addr) (n13 c14 : Nat), ((r0 = (.tuple #[(.agg #[(.int .u64 i2), (.string s3), (.bool b4), (.int .u64 i5), (.int .u64 i6), (.int .u64 i7), (.int .i64 i8), (.int .i64 i9), (.int .u64 i10), (.int .u32 i11), (.slice p12 n13 c14)]), (.bool true)]) ∧
    (∀ h15 : AH, h15 = h1.alloc (.cells ([(.int .u64 0), (.string (ByteArray.mk #[])), (.bool false), (.int .u64 0), (.int .u64 0), (.int .u64 0), (.int .i64 0), (.int .i64 0), (.int .u64 0), (.int .u32 0), (.slice none 0 0)] : List Value) 28 false) →
    (List.length ([(.int .u64 i2), (.string s3), (.bool b4), (.int .u64 i5), (.int .u64 i6), (.int .u64 i7), (.int .i64 i8), (.int .i64 i9), (.int .u64 i10), (.int .u32 i11), (.slice p12 n13 c14)] : List Value) = 11) ∧ ∃ h16 : AH, stN h15 h1.next 0 ([(.int .u64 i2), (.string s3), (.bool b4), (.int .u64 i5), (.int .u64 i6), (.int .u64 i7), (.int .i64 i8), (.int .i64 i9), (.int .u64 i10), (.int .u32 i11), (.slice p12 n13 c14)] : List Value) = some h16 ∧
    (∃ i17 : Int, ld1 h16 h1.next 4 = some (.int .u64 i17) ∧
    (Wf Try.prog K 25 [(.slice pa0 na0 ca0), (.int .u64 i17)] h16 fun r18 h19 =>
    (∃ i20 : Int, ∃ s21 : ByteArray, ∃ b22 : Bool, ∃ i23 : Int, ∃ i24 : Int, ∃ i25 : Int, ∃ i26 : Int, ∃ i27 : Int, ∃ i28 : Int, ∃ i29 : Int, ∃ (p30 : Option Addr) (n31 c32 : Nat), ((r18 = (.tuple #[(.agg #[(.int .u64 i20), (.string s21), (.bool b22), (.int .u64 i23), (.int .u64 i24), (.int .u64 i25), (.int .i64 i26), (.int .i64 i27), (.int .u64 i28), (.int .u32 i29), (.slice p30 n31 c32)]), (.bool true)]) ∧
    (∀ h33 : AH, h33 = h19.alloc (.cells ([(.int .u64 0), (.string (ByteArray.mk #[])), (.bool false), (.int .u64 0), (.int .u64 0), (.int .u64 0), (.int .i64 0), (.int .i64 0), (.int .u64 0), (.int .u32 0), (.slice none 0 0)] : List Value) 28 false) →
    (List.length ([(.int .u64 i20), (.string s21), (.bool b22), (.int .u64 i23), (.int .u64 i24), (.int .u64 i25), (.int .i64 i26), (.int .i64 i27), (.int .u64 i28), (.int .u32 i29), (.slice p30 n31 c32)] : List Value) = 11) ∧ ∃ h34 : AH, stN h33 h19.next 0 ([(.int .u64 i20), (.string s21), (.bool b22), (.int .u64 i23), (.int .u64 i24), (.int .u64 i25), (.int .i64 i26), (.int .i64 i27), (.int .u64 i28), (.int .u32 i29), (.slice p30 n31 c32)] : List Value) = some h34 ∧
    (∃ i35 : Int, ld1 h34 h19.next 5 = some (.int .u64 i35) ∧
    (Q (.int .u64 i35) h34)))) ∨ (r18 = (.tuple #[(.agg #[(.int .u64 i20), (.string s21), (.bool b22), (.int .u64 i23), (.int .u64 i24), (.int .u64 i25), (.int .i64 i26), (.int .i64 i27), (.int .u64 i28), (.int .u32 i29), (.slice p30 n31 c32)]), (.bool false)]) ∧
    (∀ h36 : AH, h36 = h19.alloc (.cells ([(.int .u64 0), (.string (ByteArray.mk #[])), (.bool false), (.int .u64 0), (.int .u64 0), (.int .u64 0), (.int .i64 0), (.int .i64 0), (.int .u64 0), (.int .u32 0), (.slice none 0 0)] : List Value) 28 false) →
    (List.length ([(.int .u64 i20), (.string s21), (.bool b22), (.int .u64 i23), (.int .u64 i24), (.int .u64 i25), (.int .i64 i26), (.int .i64 i27), (.int .u64 i28), (.int .u32 i29), (.slice p30 n31 c32)] : List Value) = 11) ∧ ∃ h37 : AH, stN h36 h19.next 0 ([(.int .u64 i20), (.string s21), (.bool b22), (.int .u64 i23), (.int .u64 i24), (.int .u64 i25), (.int .i64 i26), (.int .i64 i27), (.int .u64 i28), (.int .u32 i29), (.slice p30 n31 c32)] : List Value) = some h37 ∧
    (Q (.int .u64 0) h37))))))))) ∨ (r0 = (.tuple #[(.agg #[(.int .u64 i2), (.string s3), (.bool b4), (.int .u64 i5), (.int .u64 i6), (.int .u64 i7), (.int .i64 i8), (.int .i64 i9), (.int .u64 i10), (.int .u32 i11), (.slice p12 n13 c14)]), (.bool false)]) ∧
    (∀ h38 : AH, h38 = h1.alloc (.cells ([(.int .u64 0), (.string (ByteArray.mk #[])), (.bool false), (.int .u64 0), (.int .u64 0), (.int .u64 0), (.int .i64 0), (.int .i64 0), (.int .u64 0), (.int .u32 0), (.slice none 0 0)] : List Value) 28 false) →
    (List.length ([(.int .u64 i2), (.string s3), (.bool b4), (.int .u64 i5), (.int .u64 i6), (.int .u64 i7), (.int .i64 i8), (.int .i64 i9), (.int .u64 i10), (.int .u32 i11), (.slice p12 n13 c14)] : List Value) = 11) ∧ ∃ h39 : AH, stN h38 h1.next 0 ([(.int .u64 i2), (.string s3), (.bool b4), (.int .u64 i5), (.int .u64 i6), (.int .u64 i7), (.int .i64 i8), (.int .i64 i9), (.int .u64 i10), (.int .u32 i11), (.slice p12 n13 c14)] : List Value) = some h39 ∧
    (Q (.int .u64 0) h39)))))) :
    Wf Try.prog K 33 [(.slice pa0 na0 ca0), (.int .u64 ia1)] h Q :=
  vcF_sound (hs := []) hk (Eq.mpr (by kernel_rfl) H)
theorem vc_aquiferref16_Right {K : Xs} (hk : K 23 = none) (ia0 : Int) (pa1 : Option Addr) (na1 ca1 : Nat) (h : AH) (Q : Value → AH → Prop) (H :
    ((281474976710656 : Int) ≤ ia0 → Q (.bool false) h) ∧
    (¬ (281474976710656 : Int) ≤ ia0 → ((32 : Int) < ((na1 : Nat) : Int) → Q (.bool false) h) ∧
    (¬ (32 : Int) < ((na1 : Nat) : Int) → ∃ I0 : Int → Nat → AH → Prop, (∃ n, I0 0 n h) ∧
    ∀ (k1 : Nat) (h2 : AH) (i4 : Int), I0 i4 k1 h2 →
    ((i4 : Int) < ((na1 : Nat) : Int) → derefP pa1 fun b5 o6 => (((0 : Int) ≤ i4) ∧ ((i4 : Int) < ((na1 : Nat) : Int)) ∧
    (∃ i7 : Int, ∃ s8 : ByteArray, ∃ b9 : Bool, ∃ i10 : Int, ∃ i11 : Int, ∃ i12 : Int, ∃ i13 : Int, ∃ i14 : Int, ∃ i15 : Int, ∃ i16 : Int, ∃ (p17 : Option Addr) (n18 c19 : Nat), ldN h2 b5 (o6 + Int.toNat i4 * 11) 11 = some ([(.int .u64 i7), (.string s8), (.bool b9), (.int .u64 i10), (.int .u64 i11), (.int .u64 i12), (.int .i64 i13), (.int .i64 i14), (.int .u64 i15), (.int .u32 i16), (.slice p17 n18 c19)] : List Value) ∧
    (∀ h20 : AH, h20 = h2.alloc (.cells ([(.int .u64 0), (.string (ByteArray.mk #[])), (.bool false), (.int .u64 0), (.int .u64 0), (.int .u64 0), (.int .i64 0), (.int .i64 0), (.int .u64 0), (.int .u32 0), (.slice none 0 0)] : List Value) 28 false) →
    (List.length ([(.int .u64 i7), (.string s8), (.bool b9), (.int .u64 i10), (.int .u64 i11), (.int .u64 i12), (.int .i64 i13), (.int .i64 i14), (.int .u64 i15), (.int .u32 i16), (.slice p17 n18 c19)] : List Value) = 11) ∧ ∃ h21 : AH, stN h20 h2.next 0 ([(.int .u64 i7), (.string s8), (.bool b9), (.int .u64 i10), (.int .u64 i11), (.int .u64 i12), (.int .i64 i13), (.int .i64 i14), (.int .u64 i15), (.int .u32 i16), (.slice p17 n18 c19)] : List Value) = some h21 ∧
    (∃ i22 : Int, ∃ s23 : ByteArray, ∃ b24 : Bool, ∃ i25 : Int, ∃ i26 : Int, ∃ i27 : Int, ∃ i28 : Int, ∃ i29 : Int, ∃ i30 : Int, ∃ i31 : Int, ∃ (p32 : Option Addr) (n33 c34 : Nat), ldN h21 h2.next 0 11 = some ([(.int .u64 i22), (.string s23), (.bool b24), (.int .u64 i25), (.int .u64 i26), (.int .u64 i27), (.int .i64 i28), (.int .i64 i29), (.int .u64 i30), (.int .u32 i31), (.slice p32 n33 c34)] : List Value) ∧
    (Wf Try.prog K 58 [(.agg #[(.int .u64 i22), (.string s23), (.bool b24), (.int .u64 i25), (.int .u64 i26), (.int .u64 i27), (.int .i64 i28), (.int .i64 i29), (.int .u64 i30), (.int .u32 i31), (.slice p32 n33 c34)])] h21 fun r35 h36 =>
    (((r35 = (.bool true) ∧
    (∃ i37 : Int, ld1 h36 h2.next 0 = some (.int .u64 i37) ∧
    (((ia0 : Int) ≤ i37 → Q (.bool false) h36) ∧
    (¬ (ia0 : Int) ≤ i37 → ((0 : Int) < i4 → ∀ i38 : Int, i38 = IntKind.wrap .i64 (i4 - 1) → derefP pa1 fun b39 o40 => (((0 : Int) ≤ i38) ∧ ((i38 : Int) < ((na1 : Nat) : Int)) ∧
    (∃ i41 : Int, ld1 h36 b39 (o40 + Int.toNat i38 * 11) = some (.int .u64 i41) ∧
    (∃ i42 : Int, ld1 h36 h2.next 0 = some (.int .u64 i42) ∧
    (((i42 : Int) ≤ i41 → Q (.bool false) h36) ∧
    (¬ (i42 : Int) ≤ i41 → ∃ i43 : Int, ld1 h36 h2.next 3 = some (.int .u64 i43) ∧
    (Wf Try.prog K 25 [(.slice pa1 na1 ca1), (.int .u64 i43)] h36 fun r44 h45 =>
    (∃ i46 : Int, ∃ s47 : ByteArray, ∃ b48 : Bool, ∃ i49 : Int, ∃ i50 : Int, ∃ i51 : Int, ∃ i52 : Int, ∃ i53 : Int, ∃ i54 : Int, ∃ i55 : Int, ∃ (p56 : Option Addr) (n57 c58 : Nat), ((r44 = (.tuple #[(.agg #[(.int .u64 i46), (.string s47), (.bool b48), (.int .u64 i49), (.int .u64 i50), (.int .u64 i51), (.int .i64 i52), (.int .i64 i53), (.int .u64 i54), (.int .u32 i55), (.slice p56 n57 c58)]), (.bool true)]) ∧
    (∀ h59 : AH, h59 = h45.alloc (.cells ([(.int .u64 0), (.string (ByteArray.mk #[])), (.bool false), (.int .u64 0), (.int .u64 0), (.int .u64 0), (.int .i64 0), (.int .i64 0), (.int .u64 0), (.int .u32 0), (.slice none 0 0)] : List Value) 28 false) →
    (List.length ([(.int .u64 i46), (.string s47), (.bool b48), (.int .u64 i49), (.int .u64 i50), (.int .u64 i51), (.int .i64 i52), (.int .i64 i53), (.int .u64 i54), (.int .u32 i55), (.slice p56 n57 c58)] : List Value) = 11) ∧ ∃ h60 : AH, stN h59 h45.next 0 ([(.int .u64 i46), (.string s47), (.bool b48), (.int .u64 i49), (.int .u64 i50), (.int .u64 i51), (.int .i64 i52), (.int .i64 i53), (.int .u64 i54), (.int .u32 i55), (.slice p56 n57 c58)] : List Value) = some h60 ∧
    (((ld1 h60 h45.next 2 = some (.bool true) ∧
    (Q (.bool false) h60)) ∨ (ld1 h60 h45.next 2 = some (.bool false) ∧
    (∃ i61 : Int, ld1 h60 h2.next 4 = some (.int .u64 i61) ∧
    (Wf Try.prog K 25 [(.slice pa1 na1 ca1), (.int .u64 i61)] h60 fun r62 h63 =>
    (∃ i64 : Int, ∃ s65 : ByteArray, ∃ b66 : Bool, ∃ i67 : Int, ∃ i68 : Int, ∃ i69 : Int, ∃ i70 : Int, ∃ i71 : Int, ∃ i72 : Int, ∃ i73 : Int, ∃ (p74 : Option Addr) (n75 c76 : Nat), ((r62 = (.tuple #[(.agg #[(.int .u64 i64), (.string s65), (.bool b66), (.int .u64 i67), (.int .u64 i68), (.int .u64 i69), (.int .i64 i70), (.int .i64 i71), (.int .u64 i72), (.int .u32 i73), (.slice p74 n75 c76)]), (.bool true)]) ∧
    (∀ h77 : AH, h77 = h63.alloc (.cells ([(.int .u64 0), (.string (ByteArray.mk #[])), (.bool false), (.int .u64 0), (.int .u64 0), (.int .u64 0), (.int .i64 0), (.int .i64 0), (.int .u64 0), (.int .u32 0), (.slice none 0 0)] : List Value) 28 false) →
    (List.length ([(.int .u64 i64), (.string s65), (.bool b66), (.int .u64 i67), (.int .u64 i68), (.int .u64 i69), (.int .i64 i70), (.int .i64 i71), (.int .u64 i72), (.int .u32 i73), (.slice p74 n75 c76)] : List Value) = 11) ∧ ∃ h78 : AH, stN h77 h63.next 0 ([(.int .u64 i64), (.string s65), (.bool b66), (.int .u64 i67), (.int .u64 i68), (.int .u64 i69), (.int .i64 i70), (.int .i64 i71), (.int .u64 i72), (.int .u32 i73), (.slice p74 n75 c76)] : List Value) = some h78 ∧
    (∃ i79 : Int, ld1 h78 h2.next 4 = some (.int .u64 i79) ∧
    (((i79 : Int) = 0 → ((ld1 h78 h2.next 2 = some (.bool true) ∧
    (∃ i80 : Int, ld1 h78 h63.next 5 = some (.int .u64 i80) ∧
    (∃ i81 : Int, ld1 h78 h2.next 5 = some (.int .u64 i81) ∧
    (((i81 : Int) ≤ i80 → Q (.bool false) h78) ∧
    (¬ (i81 : Int) ≤ i80 → ∃ i82 : Int, ld1 h78 h2.next 0 = some (.int .u64 i82) ∧
    (Wf Try.prog K 29 [(.slice pa1 na1 ca1), (.int .u64 i82)] h78 fun r83 h84 =>
    (∃ (p85 : Option Addr) (n86 c87 : Nat), ∃ (p88 : Option Addr) (n89 c90 : Nat), r83 = (.tuple #[(.slice p85 n86 c87), (.slice p88 n89 c90)]) ∧
    (((ld1 h84 h2.next 2 = some (.bool true) ∧
    (((((n86 : Nat) : Int) : Int) = 1 → ∃ (p91 : Option Addr) (n92 c93 : Nat), ld1 h84 h2.next 10 = some (.slice p91 n92 c93) ∧
    (∃ I94 : Int → Nat → AH → Prop, (∃ n, I94 0 n h84) ∧
    ∀ (k95 : Nat) (h96 : AH) (i98 : Int), I94 i98 k95 h96 →
    ((i98 : Int) < ((n92 : Nat) : Int) → derefP p91 fun b99 o100 => (((0 : Int) ≤ i98) ∧ ((i98 : Int) < ((n92 : Nat) : Int)) ∧
    (∃ i101 : Int, ∃ i102 : Int, ∃ i103 : Int, ldN h96 b99 (o100 + Int.toNat i98 * 3) 3 = some ([(.int .i64 i101), (.int .u64 i102), (.int .u32 i103)] : List Value) ∧
    (∀ h104 : AH, h104 = h96.alloc (.cells ([(.int .i64 0), (.int .u64 0), (.int .u32 0)] : List Value) 25 false) →
    (List.length ([(.int .i64 i101), (.int .u64 i102), (.int .u32 i103)] : List Value) = 3) ∧ ∃ h105 : AH, stN h104 h96.next 0 ([(.int .i64 i101), (.int .u64 i102), (.int .u32 i103)] : List Value) = some h105 ∧
    (∃ i106 : Int, ld1 h105 h2.next 0 = some (.int .u64 i106) ∧
    (Wf Try.prog K 33 [(.slice pa1 na1 ca1), (.int .u64 i106)] h105 fun r107 h108 =>
    (∃ i109 : Int, r107 = (.int .u64 i109) ∧
    (∃ i110 : Int, ld1 h108 h96.next 1 = some (.int .u64 i110) ∧
    (((i109 : Int) < i110 → (ld1 h105 h96.next 1 = some (.int .u64 i110)) ∧
    ((ld1 h108 h96.next 1 = some (.int .u64 i110)) ∧
    (Q (.bool false) h108))) ∧
    (¬ (i109 : Int) < i110 → (ld1 h105 h96.next 1 = some (.int .u64 i110)) ∧
    ((ld1 h108 h96.next 1 = some (.int .u64 i110)) ∧
    (∀ i111 : Int, i111 = IntKind.wrap .i64 (i98 + 1) → ∃ j97, j97 < k95 ∧ I94 i111 j97 h108)))))))))))) ∧
    (¬ (i98 : Int) < ((n92 : Nat) : Int) → ∃ I112 : Int → Nat → AH → Prop, (∃ n, I112 0 n h96) ∧
    ∀ (k113 : Nat) (h114 : AH) (i116 : Int), I112 i116 k113 h114 →
    ((i116 : Int) < ((na1 : Nat) : Int) → derefP pa1 fun b117 o118 => (((0 : Int) ≤ i116) ∧ ((i116 : Int) < ((na1 : Nat) : Int)) ∧
    (∃ i119 : Int, ∃ s120 : ByteArray, ∃ b121 : Bool, ∃ i122 : Int, ∃ i123 : Int, ∃ i124 : Int, ∃ i125 : Int, ∃ i126 : Int, ∃ i127 : Int, ∃ i128 : Int, ∃ (p129 : Option Addr) (n130 c131 : Nat), ldN h114 b117 (o118 + Int.toNat i116 * 11) 11 = some ([(.int .u64 i119), (.string s120), (.bool b121), (.int .u64 i122), (.int .u64 i123), (.int .u64 i124), (.int .i64 i125), (.int .i64 i126), (.int .u64 i127), (.int .u32 i128), (.slice p129 n130 c131)] : List Value) ∧
    (∀ h132 : AH, h132 = h114.alloc (.cells ([(.int .u64 0), (.string (ByteArray.mk #[])), (.bool false), (.int .u64 0), (.int .u64 0), (.int .u64 0), (.int .i64 0), (.int .i64 0), (.int .u64 0), (.int .u32 0), (.slice none 0 0)] : List Value) 28 false) →
    (List.length ([(.int .u64 i119), (.string s120), (.bool b121), (.int .u64 i122), (.int .u64 i123), (.int .u64 i124), (.int .i64 i125), (.int .i64 i126), (.int .u64 i127), (.int .u32 i128), (.slice p129 n130 c131)] : List Value) = 11) ∧ ∃ h133 : AH, stN h132 h114.next 0 ([(.int .u64 i119), (.string s120), (.bool b121), (.int .u64 i122), (.int .u64 i123), (.int .u64 i124), (.int .i64 i125), (.int .i64 i126), (.int .u64 i127), (.int .u32 i128), (.slice p129 n130 c131)] : List Value) = some h133 ∧
    (((i116 : Int) = i4 → ∀ i134 : Int, i134 = IntKind.wrap .i64 (i116 + 1) → ∃ j115, j115 < k113 ∧ I112 i134 j115 h133) ∧
    (¬ (i116 : Int) = i4 → ((ld1 h133 h114.next 2 = some (.bool true) ∧
    (((ld1 h133 h2.next 2 = some (.bool true) ∧
    (∃ s135 : ByteArray, ld1 h133 h114.next 1 = some (.string s135) ∧
    (∃ s136 : ByteArray, ld1 h133 h2.next 1 = some (.string s136) ∧
    ((s135 = s136 → ((ld1 h133 h2.next 2 = some (.bool true) ∧
    (∃ i137 : Int, ld1 h133 h114.next 3 = some (.int .u64 i137) ∧
    (∃ i138 : Int, ld1 h133 h2.next 3 = some (.int .u64 i138) ∧
    (((i137 : Int) = i138 → Q (.bool false) h133) ∧
    (¬ (i137 : Int) = i138 → ∀ i139 : Int, i139 = IntKind.wrap .i64 (i116 + 1) → ∃ j115, j115 < k113 ∧ I112 i139 j115 h133))))) ∨ (ld1 h133 h2.next 2 = some (.bool false) ∧
    (Q (.bool false) h133)))) ∧
    (¬ s135 = s136 → ∀ i140 : Int, i140 = IntKind.wrap .i64 (i116 + 1) → ∃ j115, j115 < k113 ∧ I112 i140 j115 h133))))) ∨ (ld1 h133 h2.next 2 = some (.bool false) ∧
    (∀ i141 : Int, i141 = IntKind.wrap .i64 (i116 + 1) → ∃ j115, j115 < k113 ∧ I112 i141 j115 h133))))) ∨ (ld1 h133 h114.next 2 = some (.bool false) ∧
    (((ld1 h133 h2.next 2 = some (.bool true) ∧
    (∀ i142 : Int, i142 = IntKind.wrap .i64 (i116 + 1) → ∃ j115, j115 < k113 ∧ I112 i142 j115 h133)) ∨ (ld1 h133 h2.next 2 = some (.bool false) ∧
    (∃ s143 : ByteArray, ld1 h133 h114.next 1 = some (.string s143) ∧
    (∃ s144 : ByteArray, ld1 h133 h2.next 1 = some (.string s144) ∧
    ((s143 = s144 → ((ld1 h133 h2.next 2 = some (.bool true) ∧
    (∃ i145 : Int, ld1 h133 h114.next 3 = some (.int .u64 i145) ∧
    (∃ i146 : Int, ld1 h133 h2.next 3 = some (.int .u64 i146) ∧
    (((i145 : Int) = i146 → Q (.bool false) h133) ∧
    (¬ (i145 : Int) = i146 → ∀ i147 : Int, i147 = IntKind.wrap .i64 (i116 + 1) → ∃ j115, j115 < k113 ∧ I112 i147 j115 h133))))) ∨ (ld1 h133 h2.next 2 = some (.bool false) ∧
    (Q (.bool false) h133)))) ∧
    (¬ s143 = s144 → ∀ i148 : Int, i148 = IntKind.wrap .i64 (i116 + 1) → ∃ j115, j115 < k113 ∧ I112 i148 j115 h133))))))))))))))) ∧
    (¬ (i116 : Int) < ((na1 : Nat) : Int) → ∀ i149 : Int, i149 = IntKind.wrap .i64 (i4 + 1) → ∃ j3, j3 < k1 ∧ I0 i149 j3 h114)))) ∧
    (¬ (((n86 : Nat) : Int) : Int) = 1 → Q (.bool false) h84))) ∨ (ld1 h84 h2.next 2 = some (.bool false) ∧
    (∃ (p150 : Option Addr) (n151 c152 : Nat), ld1 h84 h2.next 10 = some (.slice p150 n151 c152) ∧
    (∃ I153 : Int → Nat → AH → Prop, (∃ n, I153 0 n h84) ∧
    ∀ (k154 : Nat) (h155 : AH) (i157 : Int), I153 i157 k154 h155 →
    ((i157 : Int) < ((n151 : Nat) : Int) → derefP p150 fun b158 o159 => (((0 : Int) ≤ i157) ∧ ((i157 : Int) < ((n151 : Nat) : Int)) ∧
    (∃ i160 : Int, ∃ i161 : Int, ∃ i162 : Int, ldN h155 b158 (o159 + Int.toNat i157 * 3) 3 = some ([(.int .i64 i160), (.int .u64 i161), (.int .u32 i162)] : List Value) ∧
    (∀ h163 : AH, h163 = h155.alloc (.cells ([(.int .i64 0), (.int .u64 0), (.int .u32 0)] : List Value) 25 false) →
    (List.length ([(.int .i64 i160), (.int .u64 i161), (.int .u32 i162)] : List Value) = 3) ∧ ∃ h164 : AH, stN h163 h155.next 0 ([(.int .i64 i160), (.int .u64 i161), (.int .u32 i162)] : List Value) = some h164 ∧
    (∃ i165 : Int, ld1 h164 h2.next 0 = some (.int .u64 i165) ∧
    (Wf Try.prog K 33 [(.slice pa1 na1 ca1), (.int .u64 i165)] h164 fun r166 h167 =>
    (∃ i168 : Int, r166 = (.int .u64 i168) ∧
    (∃ i169 : Int, ld1 h167 h155.next 1 = some (.int .u64 i169) ∧
    (((i168 : Int) < i169 → (ld1 h164 h155.next 1 = some (.int .u64 i169)) ∧
    ((ld1 h167 h155.next 1 = some (.int .u64 i169)) ∧
    (Q (.bool false) h167))) ∧
    (¬ (i168 : Int) < i169 → (ld1 h164 h155.next 1 = some (.int .u64 i169)) ∧
    ((ld1 h167 h155.next 1 = some (.int .u64 i169)) ∧
    (∀ i170 : Int, i170 = IntKind.wrap .i64 (i157 + 1) → ∃ j156, j156 < k154 ∧ I153 i170 j156 h167)))))))))))) ∧
    (¬ (i157 : Int) < ((n151 : Nat) : Int) → ∃ I171 : Int → Nat → AH → Prop, (∃ n, I171 0 n h155) ∧
    ∀ (k172 : Nat) (h173 : AH) (i175 : Int), I171 i175 k172 h173 →
    ((i175 : Int) < ((na1 : Nat) : Int) → derefP pa1 fun b176 o177 => (((0 : Int) ≤ i175) ∧ ((i175 : Int) < ((na1 : Nat) : Int)) ∧
    (∃ i178 : Int, ∃ s179 : ByteArray, ∃ b180 : Bool, ∃ i181 : Int, ∃ i182 : Int, ∃ i183 : Int, ∃ i184 : Int, ∃ i185 : Int, ∃ i186 : Int, ∃ i187 : Int, ∃ (p188 : Option Addr) (n189 c190 : Nat), ldN h173 b176 (o177 + Int.toNat i175 * 11) 11 = some ([(.int .u64 i178), (.string s179), (.bool b180), (.int .u64 i181), (.int .u64 i182), (.int .u64 i183), (.int .i64 i184), (.int .i64 i185), (.int .u64 i186), (.int .u32 i187), (.slice p188 n189 c190)] : List Value) ∧
    (∀ h191 : AH, h191 = h173.alloc (.cells ([(.int .u64 0), (.string (ByteArray.mk #[])), (.bool false), (.int .u64 0), (.int .u64 0), (.int .u64 0), (.int .i64 0), (.int .i64 0), (.int .u64 0), (.int .u32 0), (.slice none 0 0)] : List Value) 28 false) →
    (List.length ([(.int .u64 i178), (.string s179), (.bool b180), (.int .u64 i181), (.int .u64 i182), (.int .u64 i183), (.int .i64 i184), (.int .i64 i185), (.int .u64 i186), (.int .u32 i187), (.slice p188 n189 c190)] : List Value) = 11) ∧ ∃ h192 : AH, stN h191 h173.next 0 ([(.int .u64 i178), (.string s179), (.bool b180), (.int .u64 i181), (.int .u64 i182), (.int .u64 i183), (.int .i64 i184), (.int .i64 i185), (.int .u64 i186), (.int .u32 i187), (.slice p188 n189 c190)] : List Value) = some h192 ∧
    (((i175 : Int) = i4 → ∀ i193 : Int, i193 = IntKind.wrap .i64 (i175 + 1) → ∃ j174, j174 < k172 ∧ I171 i193 j174 h192) ∧
    (¬ (i175 : Int) = i4 → ((ld1 h192 h173.next 2 = some (.bool true) ∧
    (((ld1 h192 h2.next 2 = some (.bool true) ∧
    (∃ s194 : ByteArray, ld1 h192 h173.next 1 = some (.string s194) ∧
    (∃ s195 : ByteArray, ld1 h192 h2.next 1 = some (.string s195) ∧
    ((s194 = s195 → ((ld1 h192 h2.next 2 = some (.bool true) ∧
    (∃ i196 : Int, ld1 h192 h173.next 3 = some (.int .u64 i196) ∧
    (∃ i197 : Int, ld1 h192 h2.next 3 = some (.int .u64 i197) ∧
    (((i196 : Int) = i197 → Q (.bool false) h192) ∧
    (¬ (i196 : Int) = i197 → ∀ i198 : Int, i198 = IntKind.wrap .i64 (i175 + 1) → ∃ j174, j174 < k172 ∧ I171 i198 j174 h192))))) ∨ (ld1 h192 h2.next 2 = some (.bool false) ∧
    (Q (.bool false) h192)))) ∧
    (¬ s194 = s195 → ∀ i199 : Int, i199 = IntKind.wrap .i64 (i175 + 1) → ∃ j174, j174 < k172 ∧ I171 i199 j174 h192))))) ∨ (ld1 h192 h2.next 2 = some (.bool false) ∧
    (∀ i200 : Int, i200 = IntKind.wrap .i64 (i175 + 1) → ∃ j174, j174 < k172 ∧ I171 i200 j174 h192))))) ∨ (ld1 h192 h173.next 2 = some (.bool false) ∧
    (((ld1 h192 h2.next 2 = some (.bool true) ∧
    (∀ i201 : Int, i201 = IntKind.wrap .i64 (i175 + 1) → ∃ j174, j174 < k172 ∧ I171 i201 j174 h192)) ∨ (ld1 h192 h2.next 2 = some (.bool false) ∧
    (∃ s202 : ByteArray, ld1 h192 h173.next 1 = some (.string s202) ∧
    (∃ s203 : ByteArray, ld1 h192 h2.next 1 = some (.string s203) ∧
    ((s202 = s203 → ((ld1 h192 h2.next 2 = some (.bool true) ∧
    (∃ i204 : Int, ld1 h192 h173.next 3 = some (.int .u64 i204) ∧
    (∃ i205 : Int, ld1 h192 h2.next 3 = some (.int .u64 i205) ∧
    (((i204 : Int) = i205 → Q (.bool false) h192) ∧
    (¬ (i204 : Int) = i205 → ∀ i206 : Int, i206 = IntKind.wrap .i64 (i175 + 1) → ∃ j174, j174 < k172 ∧ I171 i206 j174 h192))))) ∨ (ld1 h192 h2.next 2 = some (.bool false) ∧
    (Q (.bool false) h192)))) ∧
    (¬ s202 = s203 → ∀ i207 : Int, i207 = IntKind.wrap .i64 (i175 + 1) → ∃ j174, j174 < k172 ∧ I171 i207 j174 h192))))))))))))))) ∧
    (¬ (i175 : Int) < ((na1 : Nat) : Int) → ∀ i208 : Int, i208 = IntKind.wrap .i64 (i4 + 1) → ∃ j3, j3 < k1 ∧ I0 i208 j3 h173)))))))))))))) ∨ (ld1 h78 h2.next 2 = some (.bool false) ∧
    (∃ i209 : Int, ld1 h78 h2.next 0 = some (.int .u64 i209) ∧
    (Wf Try.prog K 29 [(.slice pa1 na1 ca1), (.int .u64 i209)] h78 fun r210 h211 =>
    (∃ (p212 : Option Addr) (n213 c214 : Nat), ∃ (p215 : Option Addr) (n216 c217 : Nat), r210 = (.tuple #[(.slice p212 n213 c214), (.slice p215 n216 c217)]) ∧
    (((ld1 h211 h2.next 2 = some (.bool true) ∧
    (((((n213 : Nat) : Int) : Int) = 1 → ∃ (p218 : Option Addr) (n219 c220 : Nat), ld1 h211 h2.next 10 = some (.slice p218 n219 c220) ∧
    (∃ I221 : Int → Nat → AH → Prop, (∃ n, I221 0 n h211) ∧
    ∀ (k222 : Nat) (h223 : AH) (i225 : Int), I221 i225 k222 h223 →
    ((i225 : Int) < ((n219 : Nat) : Int) → derefP p218 fun b226 o227 => (((0 : Int) ≤ i225) ∧ ((i225 : Int) < ((n219 : Nat) : Int)) ∧
    (∃ i228 : Int, ∃ i229 : Int, ∃ i230 : Int, ldN h223 b226 (o227 + Int.toNat i225 * 3) 3 = some ([(.int .i64 i228), (.int .u64 i229), (.int .u32 i230)] : List Value) ∧
    (∀ h231 : AH, h231 = h223.alloc (.cells ([(.int .i64 0), (.int .u64 0), (.int .u32 0)] : List Value) 25 false) →
    (List.length ([(.int .i64 i228), (.int .u64 i229), (.int .u32 i230)] : List Value) = 3) ∧ ∃ h232 : AH, stN h231 h223.next 0 ([(.int .i64 i228), (.int .u64 i229), (.int .u32 i230)] : List Value) = some h232 ∧
    (∃ i233 : Int, ld1 h232 h2.next 0 = some (.int .u64 i233) ∧
    (Wf Try.prog K 33 [(.slice pa1 na1 ca1), (.int .u64 i233)] h232 fun r234 h235 =>
    (∃ i236 : Int, r234 = (.int .u64 i236) ∧
    (∃ i237 : Int, ld1 h235 h223.next 1 = some (.int .u64 i237) ∧
    (((i236 : Int) < i237 → (ld1 h232 h223.next 1 = some (.int .u64 i237)) ∧
    ((ld1 h235 h223.next 1 = some (.int .u64 i237)) ∧
    (Q (.bool false) h235))) ∧
    (¬ (i236 : Int) < i237 → (ld1 h232 h223.next 1 = some (.int .u64 i237)) ∧
    ((ld1 h235 h223.next 1 = some (.int .u64 i237)) ∧
    (∀ i238 : Int, i238 = IntKind.wrap .i64 (i225 + 1) → ∃ j224, j224 < k222 ∧ I221 i238 j224 h235)))))))))))) ∧
    (¬ (i225 : Int) < ((n219 : Nat) : Int) → ∃ I239 : Int → Nat → AH → Prop, (∃ n, I239 0 n h223) ∧
    ∀ (k240 : Nat) (h241 : AH) (i243 : Int), I239 i243 k240 h241 →
    ((i243 : Int) < ((na1 : Nat) : Int) → derefP pa1 fun b244 o245 => (((0 : Int) ≤ i243) ∧ ((i243 : Int) < ((na1 : Nat) : Int)) ∧
    (∃ i246 : Int, ∃ s247 : ByteArray, ∃ b248 : Bool, ∃ i249 : Int, ∃ i250 : Int, ∃ i251 : Int, ∃ i252 : Int, ∃ i253 : Int, ∃ i254 : Int, ∃ i255 : Int, ∃ (p256 : Option Addr) (n257 c258 : Nat), ldN h241 b244 (o245 + Int.toNat i243 * 11) 11 = some ([(.int .u64 i246), (.string s247), (.bool b248), (.int .u64 i249), (.int .u64 i250), (.int .u64 i251), (.int .i64 i252), (.int .i64 i253), (.int .u64 i254), (.int .u32 i255), (.slice p256 n257 c258)] : List Value) ∧
    (∀ h259 : AH, h259 = h241.alloc (.cells ([(.int .u64 0), (.string (ByteArray.mk #[])), (.bool false), (.int .u64 0), (.int .u64 0), (.int .u64 0), (.int .i64 0), (.int .i64 0), (.int .u64 0), (.int .u32 0), (.slice none 0 0)] : List Value) 28 false) →
    (List.length ([(.int .u64 i246), (.string s247), (.bool b248), (.int .u64 i249), (.int .u64 i250), (.int .u64 i251), (.int .i64 i252), (.int .i64 i253), (.int .u64 i254), (.int .u32 i255), (.slice p256 n257 c258)] : List Value) = 11) ∧ ∃ h260 : AH, stN h259 h241.next 0 ([(.int .u64 i246), (.string s247), (.bool b248), (.int .u64 i249), (.int .u64 i250), (.int .u64 i251), (.int .i64 i252), (.int .i64 i253), (.int .u64 i254), (.int .u32 i255), (.slice p256 n257 c258)] : List Value) = some h260 ∧
    (((i243 : Int) = i4 → ∀ i261 : Int, i261 = IntKind.wrap .i64 (i243 + 1) → ∃ j242, j242 < k240 ∧ I239 i261 j242 h260) ∧
    (¬ (i243 : Int) = i4 → ((ld1 h260 h241.next 2 = some (.bool true) ∧
    (((ld1 h260 h2.next 2 = some (.bool true) ∧
    (∃ s262 : ByteArray, ld1 h260 h241.next 1 = some (.string s262) ∧
    (∃ s263 : ByteArray, ld1 h260 h2.next 1 = some (.string s263) ∧
    ((s262 = s263 → ((ld1 h260 h2.next 2 = some (.bool true) ∧
    (∃ i264 : Int, ld1 h260 h241.next 3 = some (.int .u64 i264) ∧
    (∃ i265 : Int, ld1 h260 h2.next 3 = some (.int .u64 i265) ∧
    (((i264 : Int) = i265 → Q (.bool false) h260) ∧
    (¬ (i264 : Int) = i265 → ∀ i266 : Int, i266 = IntKind.wrap .i64 (i243 + 1) → ∃ j242, j242 < k240 ∧ I239 i266 j242 h260))))) ∨ (ld1 h260 h2.next 2 = some (.bool false) ∧
    (Q (.bool false) h260)))) ∧
    (¬ s262 = s263 → ∀ i267 : Int, i267 = IntKind.wrap .i64 (i243 + 1) → ∃ j242, j242 < k240 ∧ I239 i267 j242 h260))))) ∨ (ld1 h260 h2.next 2 = some (.bool false) ∧
    (∀ i268 : Int, i268 = IntKind.wrap .i64 (i243 + 1) → ∃ j242, j242 < k240 ∧ I239 i268 j242 h260))))) ∨ (ld1 h260 h241.next 2 = some (.bool false) ∧
    (((ld1 h260 h2.next 2 = some (.bool true) ∧
    (∀ i269 : Int, i269 = IntKind.wrap .i64 (i243 + 1) → ∃ j242, j242 < k240 ∧ I239 i269 j242 h260)) ∨ (ld1 h260 h2.next 2 = some (.bool false) ∧
    (∃ s270 : ByteArray, ld1 h260 h241.next 1 = some (.string s270) ∧
    (∃ s271 : ByteArray, ld1 h260 h2.next 1 = some (.string s271) ∧
    ((s270 = s271 → ((ld1 h260 h2.next 2 = some (.bool true) ∧
    (∃ i272 : Int, ld1 h260 h241.next 3 = some (.int .u64 i272) ∧
    (∃ i273 : Int, ld1 h260 h2.next 3 = some (.int .u64 i273) ∧
    (((i272 : Int) = i273 → Q (.bool false) h260) ∧
    (¬ (i272 : Int) = i273 → ∀ i274 : Int, i274 = IntKind.wrap .i64 (i243 + 1) → ∃ j242, j242 < k240 ∧ I239 i274 j242 h260))))) ∨ (ld1 h260 h2.next 2 = some (.bool false) ∧
    (Q (.bool false) h260)))) ∧
    (¬ s270 = s271 → ∀ i275 : Int, i275 = IntKind.wrap .i64 (i243 + 1) → ∃ j242, j242 < k240 ∧ I239 i275 j242 h260))))))))))))))) ∧
    (¬ (i243 : Int) < ((na1 : Nat) : Int) → ∀ i276 : Int, i276 = IntKind.wrap .i64 (i4 + 1) → ∃ j3, j3 < k1 ∧ I0 i276 j3 h241)))) ∧
    (¬ (((n213 : Nat) : Int) : Int) = 1 → Q (.bool false) h211))) ∨ (ld1 h211 h2.next 2 = some (.bool false) ∧
    (∃ (p277 : Option Addr) (n278 c279 : Nat), ld1 h211 h2.next 10 = some (.slice p277 n278 c279) ∧
    (∃ I280 : Int → Nat → AH → Prop, (∃ n, I280 0 n h211) ∧
    ∀ (k281 : Nat) (h282 : AH) (i284 : Int), I280 i284 k281 h282 →
    ((i284 : Int) < ((n278 : Nat) : Int) → derefP p277 fun b285 o286 => (((0 : Int) ≤ i284) ∧ ((i284 : Int) < ((n278 : Nat) : Int)) ∧
    (∃ i287 : Int, ∃ i288 : Int, ∃ i289 : Int, ldN h282 b285 (o286 + Int.toNat i284 * 3) 3 = some ([(.int .i64 i287), (.int .u64 i288), (.int .u32 i289)] : List Value) ∧
    (∀ h290 : AH, h290 = h282.alloc (.cells ([(.int .i64 0), (.int .u64 0), (.int .u32 0)] : List Value) 25 false) →
    (List.length ([(.int .i64 i287), (.int .u64 i288), (.int .u32 i289)] : List Value) = 3) ∧ ∃ h291 : AH, stN h290 h282.next 0 ([(.int .i64 i287), (.int .u64 i288), (.int .u32 i289)] : List Value) = some h291 ∧
    (∃ i292 : Int, ld1 h291 h2.next 0 = some (.int .u64 i292) ∧
    (Wf Try.prog K 33 [(.slice pa1 na1 ca1), (.int .u64 i292)] h291 fun r293 h294 =>
    (∃ i295 : Int, r293 = (.int .u64 i295) ∧
    (∃ i296 : Int, ld1 h294 h282.next 1 = some (.int .u64 i296) ∧
    (((i295 : Int) < i296 → (ld1 h291 h282.next 1 = some (.int .u64 i296)) ∧
    ((ld1 h294 h282.next 1 = some (.int .u64 i296)) ∧
    (Q (.bool false) h294))) ∧
    (¬ (i295 : Int) < i296 → (ld1 h291 h282.next 1 = some (.int .u64 i296)) ∧
    ((ld1 h294 h282.next 1 = some (.int .u64 i296)) ∧
    (∀ i297 : Int, i297 = IntKind.wrap .i64 (i284 + 1) → ∃ j283, j283 < k281 ∧ I280 i297 j283 h294)))))))))))) ∧
    (¬ (i284 : Int) < ((n278 : Nat) : Int) → ∃ I298 : Int → Nat → AH → Prop, (∃ n, I298 0 n h282) ∧
    ∀ (k299 : Nat) (h300 : AH) (i302 : Int), I298 i302 k299 h300 →
    ((i302 : Int) < ((na1 : Nat) : Int) → derefP pa1 fun b303 o304 => (((0 : Int) ≤ i302) ∧ ((i302 : Int) < ((na1 : Nat) : Int)) ∧
    (∃ i305 : Int, ∃ s306 : ByteArray, ∃ b307 : Bool, ∃ i308 : Int, ∃ i309 : Int, ∃ i310 : Int, ∃ i311 : Int, ∃ i312 : Int, ∃ i313 : Int, ∃ i314 : Int, ∃ (p315 : Option Addr) (n316 c317 : Nat), ldN h300 b303 (o304 + Int.toNat i302 * 11) 11 = some ([(.int .u64 i305), (.string s306), (.bool b307), (.int .u64 i308), (.int .u64 i309), (.int .u64 i310), (.int .i64 i311), (.int .i64 i312), (.int .u64 i313), (.int .u32 i314), (.slice p315 n316 c317)] : List Value) ∧
    (∀ h318 : AH, h318 = h300.alloc (.cells ([(.int .u64 0), (.string (ByteArray.mk #[])), (.bool false), (.int .u64 0), (.int .u64 0), (.int .u64 0), (.int .i64 0), (.int .i64 0), (.int .u64 0), (.int .u32 0), (.slice none 0 0)] : List Value) 28 false) →
    (List.length ([(.int .u64 i305), (.string s306), (.bool b307), (.int .u64 i308), (.int .u64 i309), (.int .u64 i310), (.int .i64 i311), (.int .i64 i312), (.int .u64 i313), (.int .u32 i314), (.slice p315 n316 c317)] : List Value) = 11) ∧ ∃ h319 : AH, stN h318 h300.next 0 ([(.int .u64 i305), (.string s306), (.bool b307), (.int .u64 i308), (.int .u64 i309), (.int .u64 i310), (.int .i64 i311), (.int .i64 i312), (.int .u64 i313), (.int .u32 i314), (.slice p315 n316 c317)] : List Value) = some h319 ∧
    (((i302 : Int) = i4 → ∀ i320 : Int, i320 = IntKind.wrap .i64 (i302 + 1) → ∃ j301, j301 < k299 ∧ I298 i320 j301 h319) ∧
    (¬ (i302 : Int) = i4 → ((ld1 h319 h300.next 2 = some (.bool true) ∧
    (((ld1 h319 h2.next 2 = some (.bool true) ∧
    (∃ s321 : ByteArray, ld1 h319 h300.next 1 = some (.string s321) ∧
    (∃ s322 : ByteArray, ld1 h319 h2.next 1 = some (.string s322) ∧
    ((s321 = s322 → ((ld1 h319 h2.next 2 = some (.bool true) ∧
    (∃ i323 : Int, ld1 h319 h300.next 3 = some (.int .u64 i323) ∧
    (∃ i324 : Int, ld1 h319 h2.next 3 = some (.int .u64 i324) ∧
    (((i323 : Int) = i324 → Q (.bool false) h319) ∧
    (¬ (i323 : Int) = i324 → ∀ i325 : Int, i325 = IntKind.wrap .i64 (i302 + 1) → ∃ j301, j301 < k299 ∧ I298 i325 j301 h319))))) ∨ (ld1 h319 h2.next 2 = some (.bool false) ∧
    (Q (.bool false) h319)))) ∧
    (¬ s321 = s322 → ∀ i326 : Int, i326 = IntKind.wrap .i64 (i302 + 1) → ∃ j301, j301 < k299 ∧ I298 i326 j301 h319))))) ∨ (ld1 h319 h2.next 2 = some (.bool false) ∧
    (∀ i327 : Int, i327 = IntKind.wrap .i64 (i302 + 1) → ∃ j301, j301 < k299 ∧ I298 i327 j301 h319))))) ∨ (ld1 h319 h300.next 2 = some (.bool false) ∧
    (((ld1 h319 h2.next 2 = some (.bool true) ∧
    (∀ i328 : Int, i328 = IntKind.wrap .i64 (i302 + 1) → ∃ j301, j301 < k299 ∧ I298 i328 j301 h319)) ∨ (ld1 h319 h2.next 2 = some (.bool false) ∧
    (∃ s329 : ByteArray, ld1 h319 h300.next 1 = some (.string s329) ∧
    (∃ s330 : ByteArray, ld1 h319 h2.next 1 = some (.string s330) ∧
    ((s329 = s330 → ((ld1 h319 h2.next 2 = some (.bool true) ∧
    (∃ i331 : Int, ld1 h319 h300.next 3 = some (.int .u64 i331) ∧
    (∃ i332 : Int, ld1 h319 h2.next 3 = some (.int .u64 i332) ∧
    (((i331 : Int) = i332 → Q (.bool false) h319) ∧
    (¬ (i331 : Int) = i332 → ∀ i333 : Int, i333 = IntKind.wrap .i64 (i302 + 1) → ∃ j301, j301 < k299 ∧ I298 i333 j301 h319))))) ∨ (ld1 h319 h2.next 2 = some (.bool false) ∧
    (Q (.bool false) h319)))) ∧
    (¬ s329 = s330 → ∀ i334 : Int, i334 = IntKind.wrap .i64 (i302 + 1) → ∃ j301, j301 < k299 ∧ I298 i334 j301 h319))))))))))))))) ∧
    (¬ (i302 : Int) < ((na1 : Nat) : Int) → ∀ i335 : Int, i335 = IntKind.wrap .i64 (i4 + 1) → ∃ j3, j3 < k1 ∧ I0 i335 j3 h300))))))))))))) ∧
    (¬ (i79 : Int) = 0 → ((ld1 h78 h63.next 2 = some (.bool true) ∧
    (((ld1 h78 h2.next 2 = some (.bool true) ∧
    (∃ i336 : Int, ld1 h78 h63.next 5 = some (.int .u64 i336) ∧
    (∃ i337 : Int, ld1 h78 h2.next 5 = some (.int .u64 i337) ∧
    (((i337 : Int) ≤ i336 → Q (.bool false) h78) ∧
    (¬ (i337 : Int) ≤ i336 → ∃ i338 : Int, ld1 h78 h2.next 0 = some (.int .u64 i338) ∧
    (Wf Try.prog K 29 [(.slice pa1 na1 ca1), (.int .u64 i338)] h78 fun r339 h340 =>
    (∃ (p341 : Option Addr) (n342 c343 : Nat), ∃ (p344 : Option Addr) (n345 c346 : Nat), r339 = (.tuple #[(.slice p341 n342 c343), (.slice p344 n345 c346)]) ∧
    (((ld1 h340 h2.next 2 = some (.bool true) ∧
    (((((n342 : Nat) : Int) : Int) = 1 → ∃ (p347 : Option Addr) (n348 c349 : Nat), ld1 h340 h2.next 10 = some (.slice p347 n348 c349) ∧
    (∃ I350 : Int → Nat → AH → Prop, (∃ n, I350 0 n h340) ∧
    ∀ (k351 : Nat) (h352 : AH) (i354 : Int), I350 i354 k351 h352 →
    ((i354 : Int) < ((n348 : Nat) : Int) → derefP p347 fun b355 o356 => (((0 : Int) ≤ i354) ∧ ((i354 : Int) < ((n348 : Nat) : Int)) ∧
    (∃ i357 : Int, ∃ i358 : Int, ∃ i359 : Int, ldN h352 b355 (o356 + Int.toNat i354 * 3) 3 = some ([(.int .i64 i357), (.int .u64 i358), (.int .u32 i359)] : List Value) ∧
    (∀ h360 : AH, h360 = h352.alloc (.cells ([(.int .i64 0), (.int .u64 0), (.int .u32 0)] : List Value) 25 false) →
    (List.length ([(.int .i64 i357), (.int .u64 i358), (.int .u32 i359)] : List Value) = 3) ∧ ∃ h361 : AH, stN h360 h352.next 0 ([(.int .i64 i357), (.int .u64 i358), (.int .u32 i359)] : List Value) = some h361 ∧
    (∃ i362 : Int, ld1 h361 h2.next 0 = some (.int .u64 i362) ∧
    (Wf Try.prog K 33 [(.slice pa1 na1 ca1), (.int .u64 i362)] h361 fun r363 h364 =>
    (∃ i365 : Int, r363 = (.int .u64 i365) ∧
    (∃ i366 : Int, ld1 h364 h352.next 1 = some (.int .u64 i366) ∧
    (((i365 : Int) < i366 → (ld1 h361 h352.next 1 = some (.int .u64 i366)) ∧
    ((ld1 h364 h352.next 1 = some (.int .u64 i366)) ∧
    (Q (.bool false) h364))) ∧
    (¬ (i365 : Int) < i366 → (ld1 h361 h352.next 1 = some (.int .u64 i366)) ∧
    ((ld1 h364 h352.next 1 = some (.int .u64 i366)) ∧
    (∀ i367 : Int, i367 = IntKind.wrap .i64 (i354 + 1) → ∃ j353, j353 < k351 ∧ I350 i367 j353 h364)))))))))))) ∧
    (¬ (i354 : Int) < ((n348 : Nat) : Int) → ∃ I368 : Int → Nat → AH → Prop, (∃ n, I368 0 n h352) ∧
    ∀ (k369 : Nat) (h370 : AH) (i372 : Int), I368 i372 k369 h370 →
    ((i372 : Int) < ((na1 : Nat) : Int) → derefP pa1 fun b373 o374 => (((0 : Int) ≤ i372) ∧ ((i372 : Int) < ((na1 : Nat) : Int)) ∧
    (∃ i375 : Int, ∃ s376 : ByteArray, ∃ b377 : Bool, ∃ i378 : Int, ∃ i379 : Int, ∃ i380 : Int, ∃ i381 : Int, ∃ i382 : Int, ∃ i383 : Int, ∃ i384 : Int, ∃ (p385 : Option Addr) (n386 c387 : Nat), ldN h370 b373 (o374 + Int.toNat i372 * 11) 11 = some ([(.int .u64 i375), (.string s376), (.bool b377), (.int .u64 i378), (.int .u64 i379), (.int .u64 i380), (.int .i64 i381), (.int .i64 i382), (.int .u64 i383), (.int .u32 i384), (.slice p385 n386 c387)] : List Value) ∧
    (∀ h388 : AH, h388 = h370.alloc (.cells ([(.int .u64 0), (.string (ByteArray.mk #[])), (.bool false), (.int .u64 0), (.int .u64 0), (.int .u64 0), (.int .i64 0), (.int .i64 0), (.int .u64 0), (.int .u32 0), (.slice none 0 0)] : List Value) 28 false) →
    (List.length ([(.int .u64 i375), (.string s376), (.bool b377), (.int .u64 i378), (.int .u64 i379), (.int .u64 i380), (.int .i64 i381), (.int .i64 i382), (.int .u64 i383), (.int .u32 i384), (.slice p385 n386 c387)] : List Value) = 11) ∧ ∃ h389 : AH, stN h388 h370.next 0 ([(.int .u64 i375), (.string s376), (.bool b377), (.int .u64 i378), (.int .u64 i379), (.int .u64 i380), (.int .i64 i381), (.int .i64 i382), (.int .u64 i383), (.int .u32 i384), (.slice p385 n386 c387)] : List Value) = some h389 ∧
    (((i372 : Int) = i4 → ∀ i390 : Int, i390 = IntKind.wrap .i64 (i372 + 1) → ∃ j371, j371 < k369 ∧ I368 i390 j371 h389) ∧
    (¬ (i372 : Int) = i4 → ((ld1 h389 h370.next 2 = some (.bool true) ∧
    (((ld1 h389 h2.next 2 = some (.bool true) ∧
    (∃ s391 : ByteArray, ld1 h389 h370.next 1 = some (.string s391) ∧
    (∃ s392 : ByteArray, ld1 h389 h2.next 1 = some (.string s392) ∧
    ((s391 = s392 → ((ld1 h389 h2.next 2 = some (.bool true) ∧
    (∃ i393 : Int, ld1 h389 h370.next 3 = some (.int .u64 i393) ∧
    (∃ i394 : Int, ld1 h389 h2.next 3 = some (.int .u64 i394) ∧
    (((i393 : Int) = i394 → Q (.bool false) h389) ∧
    (¬ (i393 : Int) = i394 → ∀ i395 : Int, i395 = IntKind.wrap .i64 (i372 + 1) → ∃ j371, j371 < k369 ∧ I368 i395 j371 h389))))) ∨ (ld1 h389 h2.next 2 = some (.bool false) ∧
    (Q (.bool false) h389)))) ∧
    (¬ s391 = s392 → ∀ i396 : Int, i396 = IntKind.wrap .i64 (i372 + 1) → ∃ j371, j371 < k369 ∧ I368 i396 j371 h389))))) ∨ (ld1 h389 h2.next 2 = some (.bool false) ∧
    (∀ i397 : Int, i397 = IntKind.wrap .i64 (i372 + 1) → ∃ j371, j371 < k369 ∧ I368 i397 j371 h389))))) ∨ (ld1 h389 h370.next 2 = some (.bool false) ∧
    (((ld1 h389 h2.next 2 = some (.bool true) ∧
    (∀ i398 : Int, i398 = IntKind.wrap .i64 (i372 + 1) → ∃ j371, j371 < k369 ∧ I368 i398 j371 h389)) ∨ (ld1 h389 h2.next 2 = some (.bool false) ∧
    (∃ s399 : ByteArray, ld1 h389 h370.next 1 = some (.string s399) ∧
    (∃ s400 : ByteArray, ld1 h389 h2.next 1 = some (.string s400) ∧
    ((s399 = s400 → ((ld1 h389 h2.next 2 = some (.bool true) ∧
    (∃ i401 : Int, ld1 h389 h370.next 3 = some (.int .u64 i401) ∧
    (∃ i402 : Int, ld1 h389 h2.next 3 = some (.int .u64 i402) ∧
    (((i401 : Int) = i402 → Q (.bool false) h389) ∧
    (¬ (i401 : Int) = i402 → ∀ i403 : Int, i403 = IntKind.wrap .i64 (i372 + 1) → ∃ j371, j371 < k369 ∧ I368 i403 j371 h389))))) ∨ (ld1 h389 h2.next 2 = some (.bool false) ∧
    (Q (.bool false) h389)))) ∧
    (¬ s399 = s400 → ∀ i404 : Int, i404 = IntKind.wrap .i64 (i372 + 1) → ∃ j371, j371 < k369 ∧ I368 i404 j371 h389))))))))))))))) ∧
    (¬ (i372 : Int) < ((na1 : Nat) : Int) → ∀ i405 : Int, i405 = IntKind.wrap .i64 (i4 + 1) → ∃ j3, j3 < k1 ∧ I0 i405 j3 h370)))) ∧
    (¬ (((n342 : Nat) : Int) : Int) = 1 → Q (.bool false) h340))) ∨ (ld1 h340 h2.next 2 = some (.bool false) ∧
    (∃ (p406 : Option Addr) (n407 c408 : Nat), ld1 h340 h2.next 10 = some (.slice p406 n407 c408) ∧
    (∃ I409 : Int → Nat → AH → Prop, (∃ n, I409 0 n h340) ∧
    ∀ (k410 : Nat) (h411 : AH) (i413 : Int), I409 i413 k410 h411 →
    ((i413 : Int) < ((n407 : Nat) : Int) → derefP p406 fun b414 o415 => (((0 : Int) ≤ i413) ∧ ((i413 : Int) < ((n407 : Nat) : Int)) ∧
    (∃ i416 : Int, ∃ i417 : Int, ∃ i418 : Int, ldN h411 b414 (o415 + Int.toNat i413 * 3) 3 = some ([(.int .i64 i416), (.int .u64 i417), (.int .u32 i418)] : List Value) ∧
    (∀ h419 : AH, h419 = h411.alloc (.cells ([(.int .i64 0), (.int .u64 0), (.int .u32 0)] : List Value) 25 false) →
    (List.length ([(.int .i64 i416), (.int .u64 i417), (.int .u32 i418)] : List Value) = 3) ∧ ∃ h420 : AH, stN h419 h411.next 0 ([(.int .i64 i416), (.int .u64 i417), (.int .u32 i418)] : List Value) = some h420 ∧
    (∃ i421 : Int, ld1 h420 h2.next 0 = some (.int .u64 i421) ∧
    (Wf Try.prog K 33 [(.slice pa1 na1 ca1), (.int .u64 i421)] h420 fun r422 h423 =>
    (∃ i424 : Int, r422 = (.int .u64 i424) ∧
    (∃ i425 : Int, ld1 h423 h411.next 1 = some (.int .u64 i425) ∧
    (((i424 : Int) < i425 → (ld1 h420 h411.next 1 = some (.int .u64 i425)) ∧
    ((ld1 h423 h411.next 1 = some (.int .u64 i425)) ∧
    (Q (.bool false) h423))) ∧
    (¬ (i424 : Int) < i425 → (ld1 h420 h411.next 1 = some (.int .u64 i425)) ∧
    ((ld1 h423 h411.next 1 = some (.int .u64 i425)) ∧
    (∀ i426 : Int, i426 = IntKind.wrap .i64 (i413 + 1) → ∃ j412, j412 < k410 ∧ I409 i426 j412 h423)))))))))))) ∧
    (¬ (i413 : Int) < ((n407 : Nat) : Int) → ∃ I427 : Int → Nat → AH → Prop, (∃ n, I427 0 n h411) ∧
    ∀ (k428 : Nat) (h429 : AH) (i431 : Int), I427 i431 k428 h429 →
    ((i431 : Int) < ((na1 : Nat) : Int) → derefP pa1 fun b432 o433 => (((0 : Int) ≤ i431) ∧ ((i431 : Int) < ((na1 : Nat) : Int)) ∧
    (∃ i434 : Int, ∃ s435 : ByteArray, ∃ b436 : Bool, ∃ i437 : Int, ∃ i438 : Int, ∃ i439 : Int, ∃ i440 : Int, ∃ i441 : Int, ∃ i442 : Int, ∃ i443 : Int, ∃ (p444 : Option Addr) (n445 c446 : Nat), ldN h429 b432 (o433 + Int.toNat i431 * 11) 11 = some ([(.int .u64 i434), (.string s435), (.bool b436), (.int .u64 i437), (.int .u64 i438), (.int .u64 i439), (.int .i64 i440), (.int .i64 i441), (.int .u64 i442), (.int .u32 i443), (.slice p444 n445 c446)] : List Value) ∧
    (∀ h447 : AH, h447 = h429.alloc (.cells ([(.int .u64 0), (.string (ByteArray.mk #[])), (.bool false), (.int .u64 0), (.int .u64 0), (.int .u64 0), (.int .i64 0), (.int .i64 0), (.int .u64 0), (.int .u32 0), (.slice none 0 0)] : List Value) 28 false) →
    (List.length ([(.int .u64 i434), (.string s435), (.bool b436), (.int .u64 i437), (.int .u64 i438), (.int .u64 i439), (.int .i64 i440), (.int .i64 i441), (.int .u64 i442), (.int .u32 i443), (.slice p444 n445 c446)] : List Value) = 11) ∧ ∃ h448 : AH, stN h447 h429.next 0 ([(.int .u64 i434), (.string s435), (.bool b436), (.int .u64 i437), (.int .u64 i438), (.int .u64 i439), (.int .i64 i440), (.int .i64 i441), (.int .u64 i442), (.int .u32 i443), (.slice p444 n445 c446)] : List Value) = some h448 ∧
    (((i431 : Int) = i4 → ∀ i449 : Int, i449 = IntKind.wrap .i64 (i431 + 1) → ∃ j430, j430 < k428 ∧ I427 i449 j430 h448) ∧
    (¬ (i431 : Int) = i4 → ((ld1 h448 h429.next 2 = some (.bool true) ∧
    (((ld1 h448 h2.next 2 = some (.bool true) ∧
    (∃ s450 : ByteArray, ld1 h448 h429.next 1 = some (.string s450) ∧
    (∃ s451 : ByteArray, ld1 h448 h2.next 1 = some (.string s451) ∧
    ((s450 = s451 → ((ld1 h448 h2.next 2 = some (.bool true) ∧
    (∃ i452 : Int, ld1 h448 h429.next 3 = some (.int .u64 i452) ∧
    (∃ i453 : Int, ld1 h448 h2.next 3 = some (.int .u64 i453) ∧
    (((i452 : Int) = i453 → Q (.bool false) h448) ∧
    (¬ (i452 : Int) = i453 → ∀ i454 : Int, i454 = IntKind.wrap .i64 (i431 + 1) → ∃ j430, j430 < k428 ∧ I427 i454 j430 h448))))) ∨ (ld1 h448 h2.next 2 = some (.bool false) ∧
    (Q (.bool false) h448)))) ∧
    (¬ s450 = s451 → ∀ i455 : Int, i455 = IntKind.wrap .i64 (i431 + 1) → ∃ j430, j430 < k428 ∧ I427 i455 j430 h448))))) ∨ (ld1 h448 h2.next 2 = some (.bool false) ∧
    (∀ i456 : Int, i456 = IntKind.wrap .i64 (i431 + 1) → ∃ j430, j430 < k428 ∧ I427 i456 j430 h448))))) ∨ (ld1 h448 h429.next 2 = some (.bool false) ∧
    (((ld1 h448 h2.next 2 = some (.bool true) ∧
    (∀ i457 : Int, i457 = IntKind.wrap .i64 (i431 + 1) → ∃ j430, j430 < k428 ∧ I427 i457 j430 h448)) ∨ (ld1 h448 h2.next 2 = some (.bool false) ∧
    (∃ s458 : ByteArray, ld1 h448 h429.next 1 = some (.string s458) ∧
    (∃ s459 : ByteArray, ld1 h448 h2.next 1 = some (.string s459) ∧
    ((s458 = s459 → ((ld1 h448 h2.next 2 = some (.bool true) ∧
    (∃ i460 : Int, ld1 h448 h429.next 3 = some (.int .u64 i460) ∧
    (∃ i461 : Int, ld1 h448 h2.next 3 = some (.int .u64 i461) ∧
    (((i460 : Int) = i461 → Q (.bool false) h448) ∧
    (¬ (i460 : Int) = i461 → ∀ i462 : Int, i462 = IntKind.wrap .i64 (i431 + 1) → ∃ j430, j430 < k428 ∧ I427 i462 j430 h448))))) ∨ (ld1 h448 h2.next 2 = some (.bool false) ∧
    (Q (.bool false) h448)))) ∧
    (¬ s458 = s459 → ∀ i463 : Int, i463 = IntKind.wrap .i64 (i431 + 1) → ∃ j430, j430 < k428 ∧ I427 i463 j430 h448))))))))))))))) ∧
    (¬ (i431 : Int) < ((na1 : Nat) : Int) → ∀ i464 : Int, i464 = IntKind.wrap .i64 (i4 + 1) → ∃ j3, j3 < k1 ∧ I0 i464 j3 h429)))))))))))))) ∨ (ld1 h78 h2.next 2 = some (.bool false) ∧
    (∃ i465 : Int, ld1 h78 h2.next 0 = some (.int .u64 i465) ∧
    (Wf Try.prog K 29 [(.slice pa1 na1 ca1), (.int .u64 i465)] h78 fun r466 h467 =>
    (∃ (p468 : Option Addr) (n469 c470 : Nat), ∃ (p471 : Option Addr) (n472 c473 : Nat), r466 = (.tuple #[(.slice p468 n469 c470), (.slice p471 n472 c473)]) ∧
    (((ld1 h467 h2.next 2 = some (.bool true) ∧
    (((((n469 : Nat) : Int) : Int) = 1 → ∃ (p474 : Option Addr) (n475 c476 : Nat), ld1 h467 h2.next 10 = some (.slice p474 n475 c476) ∧
    (∃ I477 : Int → Nat → AH → Prop, (∃ n, I477 0 n h467) ∧
    ∀ (k478 : Nat) (h479 : AH) (i481 : Int), I477 i481 k478 h479 →
    ((i481 : Int) < ((n475 : Nat) : Int) → derefP p474 fun b482 o483 => (((0 : Int) ≤ i481) ∧ ((i481 : Int) < ((n475 : Nat) : Int)) ∧
    (∃ i484 : Int, ∃ i485 : Int, ∃ i486 : Int, ldN h479 b482 (o483 + Int.toNat i481 * 3) 3 = some ([(.int .i64 i484), (.int .u64 i485), (.int .u32 i486)] : List Value) ∧
    (∀ h487 : AH, h487 = h479.alloc (.cells ([(.int .i64 0), (.int .u64 0), (.int .u32 0)] : List Value) 25 false) →
    (List.length ([(.int .i64 i484), (.int .u64 i485), (.int .u32 i486)] : List Value) = 3) ∧ ∃ h488 : AH, stN h487 h479.next 0 ([(.int .i64 i484), (.int .u64 i485), (.int .u32 i486)] : List Value) = some h488 ∧
    (∃ i489 : Int, ld1 h488 h2.next 0 = some (.int .u64 i489) ∧
    (Wf Try.prog K 33 [(.slice pa1 na1 ca1), (.int .u64 i489)] h488 fun r490 h491 =>
    (∃ i492 : Int, r490 = (.int .u64 i492) ∧
    (∃ i493 : Int, ld1 h491 h479.next 1 = some (.int .u64 i493) ∧
    (((i492 : Int) < i493 → (ld1 h488 h479.next 1 = some (.int .u64 i493)) ∧
    ((ld1 h491 h479.next 1 = some (.int .u64 i493)) ∧
    (Q (.bool false) h491))) ∧
    (¬ (i492 : Int) < i493 → (ld1 h488 h479.next 1 = some (.int .u64 i493)) ∧
    ((ld1 h491 h479.next 1 = some (.int .u64 i493)) ∧
    (∀ i494 : Int, i494 = IntKind.wrap .i64 (i481 + 1) → ∃ j480, j480 < k478 ∧ I477 i494 j480 h491)))))))))))) ∧
    (¬ (i481 : Int) < ((n475 : Nat) : Int) → ∃ I495 : Int → Nat → AH → Prop, (∃ n, I495 0 n h479) ∧
    ∀ (k496 : Nat) (h497 : AH) (i499 : Int), I495 i499 k496 h497 →
    ((i499 : Int) < ((na1 : Nat) : Int) → derefP pa1 fun b500 o501 => (((0 : Int) ≤ i499) ∧ ((i499 : Int) < ((na1 : Nat) : Int)) ∧
    (∃ i502 : Int, ∃ s503 : ByteArray, ∃ b504 : Bool, ∃ i505 : Int, ∃ i506 : Int, ∃ i507 : Int, ∃ i508 : Int, ∃ i509 : Int, ∃ i510 : Int, ∃ i511 : Int, ∃ (p512 : Option Addr) (n513 c514 : Nat), ldN h497 b500 (o501 + Int.toNat i499 * 11) 11 = some ([(.int .u64 i502), (.string s503), (.bool b504), (.int .u64 i505), (.int .u64 i506), (.int .u64 i507), (.int .i64 i508), (.int .i64 i509), (.int .u64 i510), (.int .u32 i511), (.slice p512 n513 c514)] : List Value) ∧
    (∀ h515 : AH, h515 = h497.alloc (.cells ([(.int .u64 0), (.string (ByteArray.mk #[])), (.bool false), (.int .u64 0), (.int .u64 0), (.int .u64 0), (.int .i64 0), (.int .i64 0), (.int .u64 0), (.int .u32 0), (.slice none 0 0)] : List Value) 28 false) →
    (List.length ([(.int .u64 i502), (.string s503), (.bool b504), (.int .u64 i505), (.int .u64 i506), (.int .u64 i507), (.int .i64 i508), (.int .i64 i509), (.int .u64 i510), (.int .u32 i511), (.slice p512 n513 c514)] : List Value) = 11) ∧ ∃ h516 : AH, stN h515 h497.next 0 ([(.int .u64 i502), (.string s503), (.bool b504), (.int .u64 i505), (.int .u64 i506), (.int .u64 i507), (.int .i64 i508), (.int .i64 i509), (.int .u64 i510), (.int .u32 i511), (.slice p512 n513 c514)] : List Value) = some h516 ∧
    (((i499 : Int) = i4 → ∀ i517 : Int, i517 = IntKind.wrap .i64 (i499 + 1) → ∃ j498, j498 < k496 ∧ I495 i517 j498 h516) ∧
    (¬ (i499 : Int) = i4 → ((ld1 h516 h497.next 2 = some (.bool true) ∧
    (((ld1 h516 h2.next 2 = some (.bool true) ∧
    (∃ s518 : ByteArray, ld1 h516 h497.next 1 = some (.string s518) ∧
    (∃ s519 : ByteArray, ld1 h516 h2.next 1 = some (.string s519) ∧
    ((s518 = s519 → ((ld1 h516 h2.next 2 = some (.bool true) ∧
    (∃ i520 : Int, ld1 h516 h497.next 3 = some (.int .u64 i520) ∧
    (∃ i521 : Int, ld1 h516 h2.next 3 = some (.int .u64 i521) ∧
    (((i520 : Int) = i521 → Q (.bool false) h516) ∧
    (¬ (i520 : Int) = i521 → ∀ i522 : Int, i522 = IntKind.wrap .i64 (i499 + 1) → ∃ j498, j498 < k496 ∧ I495 i522 j498 h516))))) ∨ (ld1 h516 h2.next 2 = some (.bool false) ∧
    (Q (.bool false) h516)))) ∧
    (¬ s518 = s519 → ∀ i523 : Int, i523 = IntKind.wrap .i64 (i499 + 1) → ∃ j498, j498 < k496 ∧ I495 i523 j498 h516))))) ∨ (ld1 h516 h2.next 2 = some (.bool false) ∧
    (∀ i524 : Int, i524 = IntKind.wrap .i64 (i499 + 1) → ∃ j498, j498 < k496 ∧ I495 i524 j498 h516))))) ∨ (ld1 h516 h497.next 2 = some (.bool false) ∧
    (((ld1 h516 h2.next 2 = some (.bool true) ∧
    (∀ i525 : Int, i525 = IntKind.wrap .i64 (i499 + 1) → ∃ j498, j498 < k496 ∧ I495 i525 j498 h516)) ∨ (ld1 h516 h2.next 2 = some (.bool false) ∧
    (∃ s526 : ByteArray, ld1 h516 h497.next 1 = some (.string s526) ∧
    (∃ s527 : ByteArray, ld1 h516 h2.next 1 = some (.string s527) ∧
    ((s526 = s527 → ((ld1 h516 h2.next 2 = some (.bool true) ∧
    (∃ i528 : Int, ld1 h516 h497.next 3 = some (.int .u64 i528) ∧
    (∃ i529 : Int, ld1 h516 h2.next 3 = some (.int .u64 i529) ∧
    (((i528 : Int) = i529 → Q (.bool false) h516) ∧
    (¬ (i528 : Int) = i529 → ∀ i530 : Int, i530 = IntKind.wrap .i64 (i499 + 1) → ∃ j498, j498 < k496 ∧ I495 i530 j498 h516))))) ∨ (ld1 h516 h2.next 2 = some (.bool false) ∧
    (Q (.bool false) h516)))) ∧
    (¬ s526 = s527 → ∀ i531 : Int, i531 = IntKind.wrap .i64 (i499 + 1) → ∃ j498, j498 < k496 ∧ I495 i531 j498 h516))))))))))))))) ∧
    (¬ (i499 : Int) < ((na1 : Nat) : Int) → ∀ i532 : Int, i532 = IntKind.wrap .i64 (i4 + 1) → ∃ j3, j3 < k1 ∧ I0 i532 j3 h497)))) ∧
    (¬ (((n469 : Nat) : Int) : Int) = 1 → Q (.bool false) h467))) ∨ (ld1 h467 h2.next 2 = some (.bool false) ∧
    (∃ (p533 : Option Addr) (n534 c535 : Nat), ld1 h467 h2.next 10 = some (.slice p533 n534 c535) ∧
    (∃ I536 : Int → Nat → AH → Prop, (∃ n, I536 0 n h467) ∧
    ∀ (k537 : Nat) (h538 : AH) (i540 : Int), I536 i540 k537 h538 →
    ((i540 : Int) < ((n534 : Nat) : Int) → derefP p533 fun b541 o542 => (((0 : Int) ≤ i540) ∧ ((i540 : Int) < ((n534 : Nat) : Int)) ∧
    (∃ i543 : Int, ∃ i544 : Int, ∃ i545 : Int, ldN h538 b541 (o542 + Int.toNat i540 * 3) 3 = some ([(.int .i64 i543), (.int .u64 i544), (.int .u32 i545)] : List Value) ∧
    (∀ h546 : AH, h546 = h538.alloc (.cells ([(.int .i64 0), (.int .u64 0), (.int .u32 0)] : List Value) 25 false) →
    (List.length ([(.int .i64 i543), (.int .u64 i544), (.int .u32 i545)] : List Value) = 3) ∧ ∃ h547 : AH, stN h546 h538.next 0 ([(.int .i64 i543), (.int .u64 i544), (.int .u32 i545)] : List Value) = some h547 ∧
    (∃ i548 : Int, ld1 h547 h2.next 0 = some (.int .u64 i548) ∧
    (Wf Try.prog K 33 [(.slice pa1 na1 ca1), (.int .u64 i548)] h547 fun r549 h550 =>
    (∃ i551 : Int, r549 = (.int .u64 i551) ∧
    (∃ i552 : Int, ld1 h550 h538.next 1 = some (.int .u64 i552) ∧
    (((i551 : Int) < i552 → (ld1 h547 h538.next 1 = some (.int .u64 i552)) ∧
    ((ld1 h550 h538.next 1 = some (.int .u64 i552)) ∧
    (Q (.bool false) h550))) ∧
    (¬ (i551 : Int) < i552 → (ld1 h547 h538.next 1 = some (.int .u64 i552)) ∧
    ((ld1 h550 h538.next 1 = some (.int .u64 i552)) ∧
    (∀ i553 : Int, i553 = IntKind.wrap .i64 (i540 + 1) → ∃ j539, j539 < k537 ∧ I536 i553 j539 h550)))))))))))) ∧
    (¬ (i540 : Int) < ((n534 : Nat) : Int) → ∃ I554 : Int → Nat → AH → Prop, (∃ n, I554 0 n h538) ∧
    ∀ (k555 : Nat) (h556 : AH) (i558 : Int), I554 i558 k555 h556 →
    ((i558 : Int) < ((na1 : Nat) : Int) → derefP pa1 fun b559 o560 => (((0 : Int) ≤ i558) ∧ ((i558 : Int) < ((na1 : Nat) : Int)) ∧
    (∃ i561 : Int, ∃ s562 : ByteArray, ∃ b563 : Bool, ∃ i564 : Int, ∃ i565 : Int, ∃ i566 : Int, ∃ i567 : Int, ∃ i568 : Int, ∃ i569 : Int, ∃ i570 : Int, ∃ (p571 : Option Addr) (n572 c573 : Nat), ldN h556 b559 (o560 + Int.toNat i558 * 11) 11 = some ([(.int .u64 i561), (.string s562), (.bool b563), (.int .u64 i564), (.int .u64 i565), (.int .u64 i566), (.int .i64 i567), (.int .i64 i568), (.int .u64 i569), (.int .u32 i570), (.slice p571 n572 c573)] : List Value) ∧
    (∀ h574 : AH, h574 = h556.alloc (.cells ([(.int .u64 0), (.string (ByteArray.mk #[])), (.bool false), (.int .u64 0), (.int .u64 0), (.int .u64 0), (.int .i64 0), (.int .i64 0), (.int .u64 0), (.int .u32 0), (.slice none 0 0)] : List Value) 28 false) →
    (List.length ([(.int .u64 i561), (.string s562), (.bool b563), (.int .u64 i564), (.int .u64 i565), (.int .u64 i566), (.int .i64 i567), (.int .i64 i568), (.int .u64 i569), (.int .u32 i570), (.slice p571 n572 c573)] : List Value) = 11) ∧ ∃ h575 : AH, stN h574 h556.next 0 ([(.int .u64 i561), (.string s562), (.bool b563), (.int .u64 i564), (.int .u64 i565), (.int .u64 i566), (.int .i64 i567), (.int .i64 i568), (.int .u64 i569), (.int .u32 i570), (.slice p571 n572 c573)] : List Value) = some h575 ∧
    (((i558 : Int) = i4 → ∀ i576 : Int, i576 = IntKind.wrap .i64 (i558 + 1) → ∃ j557, j557 < k555 ∧ I554 i576 j557 h575) ∧
    (¬ (i558 : Int) = i4 → ((ld1 h575 h556.next 2 = some (.bool true) ∧
    (((ld1 h575 h2.next 2 = some (.bool true) ∧
    (∃ s577 : ByteArray, ld1 h575 h556.next 1 = some (.string s577) ∧
    (∃ s578 : ByteArray, ld1 h575 h2.next 1 = some (.string s578) ∧
    ((s577 = s578 → ((ld1 h575 h2.next 2 = some (.bool true) ∧
    (∃ i579 : Int, ld1 h575 h556.next 3 = some (.int .u64 i579) ∧
    (∃ i580 : Int, ld1 h575 h2.next 3 = some (.int .u64 i580) ∧
    (((i579 : Int) = i580 → Q (.bool false) h575) ∧
    (¬ (i579 : Int) = i580 → ∀ i581 : Int, i581 = IntKind.wrap .i64 (i558 + 1) → ∃ j557, j557 < k555 ∧ I554 i581 j557 h575))))) ∨ (ld1 h575 h2.next 2 = some (.bool false) ∧
    (Q (.bool false) h575)))) ∧
    (¬ s577 = s578 → ∀ i582 : Int, i582 = IntKind.wrap .i64 (i558 + 1) → ∃ j557, j557 < k555 ∧ I554 i582 j557 h575))))) ∨ (ld1 h575 h2.next 2 = some (.bool false) ∧
    (∀ i583 : Int, i583 = IntKind.wrap .i64 (i558 + 1) → ∃ j557, j557 < k555 ∧ I554 i583 j557 h575))))) ∨ (ld1 h575 h556.next 2 = some (.bool false) ∧
    (((ld1 h575 h2.next 2 = some (.bool true) ∧
    (∀ i584 : Int, i584 = IntKind.wrap .i64 (i558 + 1) → ∃ j557, j557 < k555 ∧ I554 i584 j557 h575)) ∨ (ld1 h575 h2.next 2 = some (.bool false) ∧
    (∃ s585 : ByteArray, ld1 h575 h556.next 1 = some (.string s585) ∧
    (∃ s586 : ByteArray, ld1 h575 h2.next 1 = some (.string s586) ∧
    ((s585 = s586 → ((ld1 h575 h2.next 2 = some (.bool true) ∧
    (∃ i587 : Int, ld1 h575 h556.next 3 = some (.int .u64 i587) ∧
    (∃ i588 : Int, ld1 h575 h2.next 3 = some (.int .u64 i588) ∧
    (((i587 : Int) = i588 → Q (.bool false) h575) ∧
    (¬ (i587 : Int) = i588 → ∀ i589 : Int, i589 = IntKind.wrap .i64 (i558 + 1) → ∃ j557, j557 < k555 ∧ I554 i589 j557 h575))))) ∨ (ld1 h575 h2.next 2 = some (.bool false) ∧
    (Q (.bool false) h575)))) ∧
    (¬ s585 = s586 → ∀ i590 : Int, i590 = IntKind.wrap .i64 (i558 + 1) → ∃ j557, j557 < k555 ∧ I554 i590 j557 h575))))))))))))))) ∧
    (¬ (i558 : Int) < ((na1 : Nat) : Int) → ∀ i591 : Int, i591 = IntKind.wrap .i64 (i4 + 1) → ∃ j3, j3 < k1 ∧ I0 i591 j3 h556)))))))))))))) ∨ (ld1 h78 h63.next 2 = some (.bool false) ∧
    (Q (.bool false) h78)))))))) ∨ (r62 = (.tuple #[(.agg #[(.int .u64 i64), (.string s65), (.bool b66), (.int .u64 i67), (.int .u64 i68), (.int .u64 i69), (.int .i64 i70), (.int .i64 i71), (.int .u64 i72), (.int .u32 i73), (.slice p74 n75 c76)]), (.bool false)]) ∧
    (∀ h592 : AH, h592 = h63.alloc (.cells ([(.int .u64 0), (.string (ByteArray.mk #[])), (.bool false), (.int .u64 0), (.int .u64 0), (.int .u64 0), (.int .i64 0), (.int .i64 0), (.int .u64 0), (.int .u32 0), (.slice none 0 0)] : List Value) 28 false) →
    (List.length ([(.int .u64 i64), (.string s65), (.bool b66), (.int .u64 i67), (.int .u64 i68), (.int .u64 i69), (.int .i64 i70), (.int .i64 i71), (.int .u64 i72), (.int .u32 i73), (.slice p74 n75 c76)] : List Value) = 11) ∧ ∃ h593 : AH, stN h592 h63.next 0 ([(.int .u64 i64), (.string s65), (.bool b66), (.int .u64 i67), (.int .u64 i68), (.int .u64 i69), (.int .i64 i70), (.int .i64 i71), (.int .u64 i72), (.int .u32 i73), (.slice p74 n75 c76)] : List Value) = some h593 ∧
    (∃ i594 : Int, ld1 h593 h2.next 4 = some (.int .u64 i594) ∧
    (((i594 : Int) = 0 → ∃ i595 : Int, ld1 h593 h2.next 0 = some (.int .u64 i595) ∧
    (Wf Try.prog K 29 [(.slice pa1 na1 ca1), (.int .u64 i595)] h593 fun r596 h597 =>
    (∃ (p598 : Option Addr) (n599 c600 : Nat), ∃ (p601 : Option Addr) (n602 c603 : Nat), r596 = (.tuple #[(.slice p598 n599 c600), (.slice p601 n602 c603)]) ∧
    (((ld1 h597 h2.next 2 = some (.bool true) ∧
    (((((n599 : Nat) : Int) : Int) = 1 → ∃ (p604 : Option Addr) (n605 c606 : Nat), ld1 h597 h2.next 10 = some (.slice p604 n605 c606) ∧
    (∃ I607 : Int → Nat → AH → Prop, (∃ n, I607 0 n h597) ∧
    ∀ (k608 : Nat) (h609 : AH) (i611 : Int), I607 i611 k608 h609 →
    ((i611 : Int) < ((n605 : Nat) : Int) → derefP p604 fun b612 o613 => (((0 : Int) ≤ i611) ∧ ((i611 : Int) < ((n605 : Nat) : Int)) ∧
    (∃ i614 : Int, ∃ i615 : Int, ∃ i616 : Int, ldN h609 b612 (o613 + Int.toNat i611 * 3) 3 = some ([(.int .i64 i614), (.int .u64 i615), (.int .u32 i616)] : List Value) ∧
    (∀ h617 : AH, h617 = h609.alloc (.cells ([(.int .i64 0), (.int .u64 0), (.int .u32 0)] : List Value) 25 false) →
    (List.length ([(.int .i64 i614), (.int .u64 i615), (.int .u32 i616)] : List Value) = 3) ∧ ∃ h618 : AH, stN h617 h609.next 0 ([(.int .i64 i614), (.int .u64 i615), (.int .u32 i616)] : List Value) = some h618 ∧
    (∃ i619 : Int, ld1 h618 h2.next 0 = some (.int .u64 i619) ∧
    (Wf Try.prog K 33 [(.slice pa1 na1 ca1), (.int .u64 i619)] h618 fun r620 h621 =>
    (∃ i622 : Int, r620 = (.int .u64 i622) ∧
    (∃ i623 : Int, ld1 h621 h609.next 1 = some (.int .u64 i623) ∧
    (((i622 : Int) < i623 → (ld1 h618 h609.next 1 = some (.int .u64 i623)) ∧
    ((ld1 h621 h609.next 1 = some (.int .u64 i623)) ∧
    (Q (.bool false) h621))) ∧
    (¬ (i622 : Int) < i623 → (ld1 h618 h609.next 1 = some (.int .u64 i623)) ∧
    ((ld1 h621 h609.next 1 = some (.int .u64 i623)) ∧
    (∀ i624 : Int, i624 = IntKind.wrap .i64 (i611 + 1) → ∃ j610, j610 < k608 ∧ I607 i624 j610 h621)))))))))))) ∧
    (¬ (i611 : Int) < ((n605 : Nat) : Int) → ∃ I625 : Int → Nat → AH → Prop, (∃ n, I625 0 n h609) ∧
    ∀ (k626 : Nat) (h627 : AH) (i629 : Int), I625 i629 k626 h627 →
    ((i629 : Int) < ((na1 : Nat) : Int) → derefP pa1 fun b630 o631 => (((0 : Int) ≤ i629) ∧ ((i629 : Int) < ((na1 : Nat) : Int)) ∧
    (∃ i632 : Int, ∃ s633 : ByteArray, ∃ b634 : Bool, ∃ i635 : Int, ∃ i636 : Int, ∃ i637 : Int, ∃ i638 : Int, ∃ i639 : Int, ∃ i640 : Int, ∃ i641 : Int, ∃ (p642 : Option Addr) (n643 c644 : Nat), ldN h627 b630 (o631 + Int.toNat i629 * 11) 11 = some ([(.int .u64 i632), (.string s633), (.bool b634), (.int .u64 i635), (.int .u64 i636), (.int .u64 i637), (.int .i64 i638), (.int .i64 i639), (.int .u64 i640), (.int .u32 i641), (.slice p642 n643 c644)] : List Value) ∧
    (∀ h645 : AH, h645 = h627.alloc (.cells ([(.int .u64 0), (.string (ByteArray.mk #[])), (.bool false), (.int .u64 0), (.int .u64 0), (.int .u64 0), (.int .i64 0), (.int .i64 0), (.int .u64 0), (.int .u32 0), (.slice none 0 0)] : List Value) 28 false) →
    (List.length ([(.int .u64 i632), (.string s633), (.bool b634), (.int .u64 i635), (.int .u64 i636), (.int .u64 i637), (.int .i64 i638), (.int .i64 i639), (.int .u64 i640), (.int .u32 i641), (.slice p642 n643 c644)] : List Value) = 11) ∧ ∃ h646 : AH, stN h645 h627.next 0 ([(.int .u64 i632), (.string s633), (.bool b634), (.int .u64 i635), (.int .u64 i636), (.int .u64 i637), (.int .i64 i638), (.int .i64 i639), (.int .u64 i640), (.int .u32 i641), (.slice p642 n643 c644)] : List Value) = some h646 ∧
    (((i629 : Int) = i4 → ∀ i647 : Int, i647 = IntKind.wrap .i64 (i629 + 1) → ∃ j628, j628 < k626 ∧ I625 i647 j628 h646) ∧
    (¬ (i629 : Int) = i4 → ((ld1 h646 h627.next 2 = some (.bool true) ∧
    (((ld1 h646 h2.next 2 = some (.bool true) ∧
    (∃ s648 : ByteArray, ld1 h646 h627.next 1 = some (.string s648) ∧
    (∃ s649 : ByteArray, ld1 h646 h2.next 1 = some (.string s649) ∧
    ((s648 = s649 → ((ld1 h646 h2.next 2 = some (.bool true) ∧
    (∃ i650 : Int, ld1 h646 h627.next 3 = some (.int .u64 i650) ∧
    (∃ i651 : Int, ld1 h646 h2.next 3 = some (.int .u64 i651) ∧
    (((i650 : Int) = i651 → Q (.bool false) h646) ∧
    (¬ (i650 : Int) = i651 → ∀ i652 : Int, i652 = IntKind.wrap .i64 (i629 + 1) → ∃ j628, j628 < k626 ∧ I625 i652 j628 h646))))) ∨ (ld1 h646 h2.next 2 = some (.bool false) ∧
    (Q (.bool false) h646)))) ∧
    (¬ s648 = s649 → ∀ i653 : Int, i653 = IntKind.wrap .i64 (i629 + 1) → ∃ j628, j628 < k626 ∧ I625 i653 j628 h646))))) ∨ (ld1 h646 h2.next 2 = some (.bool false) ∧
    (∀ i654 : Int, i654 = IntKind.wrap .i64 (i629 + 1) → ∃ j628, j628 < k626 ∧ I625 i654 j628 h646))))) ∨ (ld1 h646 h627.next 2 = some (.bool false) ∧
    (((ld1 h646 h2.next 2 = some (.bool true) ∧
    (∀ i655 : Int, i655 = IntKind.wrap .i64 (i629 + 1) → ∃ j628, j628 < k626 ∧ I625 i655 j628 h646)) ∨ (ld1 h646 h2.next 2 = some (.bool false) ∧
    (∃ s656 : ByteArray, ld1 h646 h627.next 1 = some (.string s656) ∧
    (∃ s657 : ByteArray, ld1 h646 h2.next 1 = some (.string s657) ∧
    ((s656 = s657 → ((ld1 h646 h2.next 2 = some (.bool true) ∧
    (∃ i658 : Int, ld1 h646 h627.next 3 = some (.int .u64 i658) ∧
    (∃ i659 : Int, ld1 h646 h2.next 3 = some (.int .u64 i659) ∧
    (((i658 : Int) = i659 → Q (.bool false) h646) ∧
    (¬ (i658 : Int) = i659 → ∀ i660 : Int, i660 = IntKind.wrap .i64 (i629 + 1) → ∃ j628, j628 < k626 ∧ I625 i660 j628 h646))))) ∨ (ld1 h646 h2.next 2 = some (.bool false) ∧
    (Q (.bool false) h646)))) ∧
    (¬ s656 = s657 → ∀ i661 : Int, i661 = IntKind.wrap .i64 (i629 + 1) → ∃ j628, j628 < k626 ∧ I625 i661 j628 h646))))))))))))))) ∧
    (¬ (i629 : Int) < ((na1 : Nat) : Int) → ∀ i662 : Int, i662 = IntKind.wrap .i64 (i4 + 1) → ∃ j3, j3 < k1 ∧ I0 i662 j3 h627)))) ∧
    (¬ (((n599 : Nat) : Int) : Int) = 1 → Q (.bool false) h597))) ∨ (ld1 h597 h2.next 2 = some (.bool false) ∧
    (∃ (p663 : Option Addr) (n664 c665 : Nat), ld1 h597 h2.next 10 = some (.slice p663 n664 c665) ∧
    (∃ I666 : Int → Nat → AH → Prop, (∃ n, I666 0 n h597) ∧
    ∀ (k667 : Nat) (h668 : AH) (i670 : Int), I666 i670 k667 h668 →
    ((i670 : Int) < ((n664 : Nat) : Int) → derefP p663 fun b671 o672 => (((0 : Int) ≤ i670) ∧ ((i670 : Int) < ((n664 : Nat) : Int)) ∧
    (∃ i673 : Int, ∃ i674 : Int, ∃ i675 : Int, ldN h668 b671 (o672 + Int.toNat i670 * 3) 3 = some ([(.int .i64 i673), (.int .u64 i674), (.int .u32 i675)] : List Value) ∧
    (∀ h676 : AH, h676 = h668.alloc (.cells ([(.int .i64 0), (.int .u64 0), (.int .u32 0)] : List Value) 25 false) →
    (List.length ([(.int .i64 i673), (.int .u64 i674), (.int .u32 i675)] : List Value) = 3) ∧ ∃ h677 : AH, stN h676 h668.next 0 ([(.int .i64 i673), (.int .u64 i674), (.int .u32 i675)] : List Value) = some h677 ∧
    (∃ i678 : Int, ld1 h677 h2.next 0 = some (.int .u64 i678) ∧
    (Wf Try.prog K 33 [(.slice pa1 na1 ca1), (.int .u64 i678)] h677 fun r679 h680 =>
    (∃ i681 : Int, r679 = (.int .u64 i681) ∧
    (∃ i682 : Int, ld1 h680 h668.next 1 = some (.int .u64 i682) ∧
    (((i681 : Int) < i682 → (ld1 h677 h668.next 1 = some (.int .u64 i682)) ∧
    ((ld1 h680 h668.next 1 = some (.int .u64 i682)) ∧
    (Q (.bool false) h680))) ∧
    (¬ (i681 : Int) < i682 → (ld1 h677 h668.next 1 = some (.int .u64 i682)) ∧
    ((ld1 h680 h668.next 1 = some (.int .u64 i682)) ∧
    (∀ i683 : Int, i683 = IntKind.wrap .i64 (i670 + 1) → ∃ j669, j669 < k667 ∧ I666 i683 j669 h680)))))))))))) ∧
    (¬ (i670 : Int) < ((n664 : Nat) : Int) → ∃ I684 : Int → Nat → AH → Prop, (∃ n, I684 0 n h668) ∧
    ∀ (k685 : Nat) (h686 : AH) (i688 : Int), I684 i688 k685 h686 →
    ((i688 : Int) < ((na1 : Nat) : Int) → derefP pa1 fun b689 o690 => (((0 : Int) ≤ i688) ∧ ((i688 : Int) < ((na1 : Nat) : Int)) ∧
    (∃ i691 : Int, ∃ s692 : ByteArray, ∃ b693 : Bool, ∃ i694 : Int, ∃ i695 : Int, ∃ i696 : Int, ∃ i697 : Int, ∃ i698 : Int, ∃ i699 : Int, ∃ i700 : Int, ∃ (p701 : Option Addr) (n702 c703 : Nat), ldN h686 b689 (o690 + Int.toNat i688 * 11) 11 = some ([(.int .u64 i691), (.string s692), (.bool b693), (.int .u64 i694), (.int .u64 i695), (.int .u64 i696), (.int .i64 i697), (.int .i64 i698), (.int .u64 i699), (.int .u32 i700), (.slice p701 n702 c703)] : List Value) ∧
    (∀ h704 : AH, h704 = h686.alloc (.cells ([(.int .u64 0), (.string (ByteArray.mk #[])), (.bool false), (.int .u64 0), (.int .u64 0), (.int .u64 0), (.int .i64 0), (.int .i64 0), (.int .u64 0), (.int .u32 0), (.slice none 0 0)] : List Value) 28 false) →
    (List.length ([(.int .u64 i691), (.string s692), (.bool b693), (.int .u64 i694), (.int .u64 i695), (.int .u64 i696), (.int .i64 i697), (.int .i64 i698), (.int .u64 i699), (.int .u32 i700), (.slice p701 n702 c703)] : List Value) = 11) ∧ ∃ h705 : AH, stN h704 h686.next 0 ([(.int .u64 i691), (.string s692), (.bool b693), (.int .u64 i694), (.int .u64 i695), (.int .u64 i696), (.int .i64 i697), (.int .i64 i698), (.int .u64 i699), (.int .u32 i700), (.slice p701 n702 c703)] : List Value) = some h705 ∧
    (((i688 : Int) = i4 → ∀ i706 : Int, i706 = IntKind.wrap .i64 (i688 + 1) → ∃ j687, j687 < k685 ∧ I684 i706 j687 h705) ∧
    (¬ (i688 : Int) = i4 → ((ld1 h705 h686.next 2 = some (.bool true) ∧
    (((ld1 h705 h2.next 2 = some (.bool true) ∧
    (∃ s707 : ByteArray, ld1 h705 h686.next 1 = some (.string s707) ∧
    (∃ s708 : ByteArray, ld1 h705 h2.next 1 = some (.string s708) ∧
    ((s707 = s708 → ((ld1 h705 h2.next 2 = some (.bool true) ∧
    (∃ i709 : Int, ld1 h705 h686.next 3 = some (.int .u64 i709) ∧
    (∃ i710 : Int, ld1 h705 h2.next 3 = some (.int .u64 i710) ∧
    (((i709 : Int) = i710 → Q (.bool false) h705) ∧
    (¬ (i709 : Int) = i710 → ∀ i711 : Int, i711 = IntKind.wrap .i64 (i688 + 1) → ∃ j687, j687 < k685 ∧ I684 i711 j687 h705))))) ∨ (ld1 h705 h2.next 2 = some (.bool false) ∧
    (Q (.bool false) h705)))) ∧
    (¬ s707 = s708 → ∀ i712 : Int, i712 = IntKind.wrap .i64 (i688 + 1) → ∃ j687, j687 < k685 ∧ I684 i712 j687 h705))))) ∨ (ld1 h705 h2.next 2 = some (.bool false) ∧
    (∀ i713 : Int, i713 = IntKind.wrap .i64 (i688 + 1) → ∃ j687, j687 < k685 ∧ I684 i713 j687 h705))))) ∨ (ld1 h705 h686.next 2 = some (.bool false) ∧
    (((ld1 h705 h2.next 2 = some (.bool true) ∧
    (∀ i714 : Int, i714 = IntKind.wrap .i64 (i688 + 1) → ∃ j687, j687 < k685 ∧ I684 i714 j687 h705)) ∨ (ld1 h705 h2.next 2 = some (.bool false) ∧
    (∃ s715 : ByteArray, ld1 h705 h686.next 1 = some (.string s715) ∧
    (∃ s716 : ByteArray, ld1 h705 h2.next 1 = some (.string s716) ∧
    ((s715 = s716 → ((ld1 h705 h2.next 2 = some (.bool true) ∧
    (∃ i717 : Int, ld1 h705 h686.next 3 = some (.int .u64 i717) ∧
    (∃ i718 : Int, ld1 h705 h2.next 3 = some (.int .u64 i718) ∧
    (((i717 : Int) = i718 → Q (.bool false) h705) ∧
    (¬ (i717 : Int) = i718 → ∀ i719 : Int, i719 = IntKind.wrap .i64 (i688 + 1) → ∃ j687, j687 < k685 ∧ I684 i719 j687 h705))))) ∨ (ld1 h705 h2.next 2 = some (.bool false) ∧
    (Q (.bool false) h705)))) ∧
    (¬ s715 = s716 → ∀ i720 : Int, i720 = IntKind.wrap .i64 (i688 + 1) → ∃ j687, j687 < k685 ∧ I684 i720 j687 h705))))))))))))))) ∧
    (¬ (i688 : Int) < ((na1 : Nat) : Int) → ∀ i721 : Int, i721 = IntKind.wrap .i64 (i4 + 1) → ∃ j3, j3 < k1 ∧ I0 i721 j3 h686)))))))))) ∧
    (¬ (i594 : Int) = 0 → Q (.bool false) h593)))))))))))))) ∨ (r44 = (.tuple #[(.agg #[(.int .u64 i46), (.string s47), (.bool b48), (.int .u64 i49), (.int .u64 i50), (.int .u64 i51), (.int .i64 i52), (.int .i64 i53), (.int .u64 i54), (.int .u32 i55), (.slice p56 n57 c58)]), (.bool false)]) ∧
    (∀ h722 : AH, h722 = h45.alloc (.cells ([(.int .u64 0), (.string (ByteArray.mk #[])), (.bool false), (.int .u64 0), (.int .u64 0), (.int .u64 0), (.int .i64 0), (.int .i64 0), (.int .u64 0), (.int .u32 0), (.slice none 0 0)] : List Value) 28 false) →
    (List.length ([(.int .u64 i46), (.string s47), (.bool b48), (.int .u64 i49), (.int .u64 i50), (.int .u64 i51), (.int .i64 i52), (.int .i64 i53), (.int .u64 i54), (.int .u32 i55), (.slice p56 n57 c58)] : List Value) = 11) ∧ ∃ h723 : AH, stN h722 h45.next 0 ([(.int .u64 i46), (.string s47), (.bool b48), (.int .u64 i49), (.int .u64 i50), (.int .u64 i51), (.int .i64 i52), (.int .i64 i53), (.int .u64 i54), (.int .u32 i55), (.slice p56 n57 c58)] : List Value) = some h723 ∧
    (Q (.bool false) h723)))))))))))) ∧
    (¬ (0 : Int) < i4 → ∃ i724 : Int, ld1 h36 h2.next 3 = some (.int .u64 i724) ∧
    (Wf Try.prog K 25 [(.slice pa1 na1 ca1), (.int .u64 i724)] h36 fun r725 h726 =>
    (∃ i727 : Int, ∃ s728 : ByteArray, ∃ b729 : Bool, ∃ i730 : Int, ∃ i731 : Int, ∃ i732 : Int, ∃ i733 : Int, ∃ i734 : Int, ∃ i735 : Int, ∃ i736 : Int, ∃ (p737 : Option Addr) (n738 c739 : Nat), ((r725 = (.tuple #[(.agg #[(.int .u64 i727), (.string s728), (.bool b729), (.int .u64 i730), (.int .u64 i731), (.int .u64 i732), (.int .i64 i733), (.int .i64 i734), (.int .u64 i735), (.int .u32 i736), (.slice p737 n738 c739)]), (.bool true)]) ∧
    (∀ h740 : AH, h740 = h726.alloc (.cells ([(.int .u64 0), (.string (ByteArray.mk #[])), (.bool false), (.int .u64 0), (.int .u64 0), (.int .u64 0), (.int .i64 0), (.int .i64 0), (.int .u64 0), (.int .u32 0), (.slice none 0 0)] : List Value) 28 false) →
    (List.length ([(.int .u64 i727), (.string s728), (.bool b729), (.int .u64 i730), (.int .u64 i731), (.int .u64 i732), (.int .i64 i733), (.int .i64 i734), (.int .u64 i735), (.int .u32 i736), (.slice p737 n738 c739)] : List Value) = 11) ∧ ∃ h741 : AH, stN h740 h726.next 0 ([(.int .u64 i727), (.string s728), (.bool b729), (.int .u64 i730), (.int .u64 i731), (.int .u64 i732), (.int .i64 i733), (.int .i64 i734), (.int .u64 i735), (.int .u32 i736), (.slice p737 n738 c739)] : List Value) = some h741 ∧
    (((ld1 h741 h726.next 2 = some (.bool true) ∧
    (Q (.bool false) h741)) ∨ (ld1 h741 h726.next 2 = some (.bool false) ∧
    (∃ i742 : Int, ld1 h741 h2.next 4 = some (.int .u64 i742) ∧
    (Wf Try.prog K 25 [(.slice pa1 na1 ca1), (.int .u64 i742)] h741 fun r743 h744 =>
    (∃ i745 : Int, ∃ s746 : ByteArray, ∃ b747 : Bool, ∃ i748 : Int, ∃ i749 : Int, ∃ i750 : Int, ∃ i751 : Int, ∃ i752 : Int, ∃ i753 : Int, ∃ i754 : Int, ∃ (p755 : Option Addr) (n756 c757 : Nat), ((r743 = (.tuple #[(.agg #[(.int .u64 i745), (.string s746), (.bool b747), (.int .u64 i748), (.int .u64 i749), (.int .u64 i750), (.int .i64 i751), (.int .i64 i752), (.int .u64 i753), (.int .u32 i754), (.slice p755 n756 c757)]), (.bool true)]) ∧
    (∀ h758 : AH, h758 = h744.alloc (.cells ([(.int .u64 0), (.string (ByteArray.mk #[])), (.bool false), (.int .u64 0), (.int .u64 0), (.int .u64 0), (.int .i64 0), (.int .i64 0), (.int .u64 0), (.int .u32 0), (.slice none 0 0)] : List Value) 28 false) →
    (List.length ([(.int .u64 i745), (.string s746), (.bool b747), (.int .u64 i748), (.int .u64 i749), (.int .u64 i750), (.int .i64 i751), (.int .i64 i752), (.int .u64 i753), (.int .u32 i754), (.slice p755 n756 c757)] : List Value) = 11) ∧ ∃ h759 : AH, stN h758 h744.next 0 ([(.int .u64 i745), (.string s746), (.bool b747), (.int .u64 i748), (.int .u64 i749), (.int .u64 i750), (.int .i64 i751), (.int .i64 i752), (.int .u64 i753), (.int .u32 i754), (.slice p755 n756 c757)] : List Value) = some h759 ∧
    (∃ i760 : Int, ld1 h759 h2.next 4 = some (.int .u64 i760) ∧
    (((i760 : Int) = 0 → ((ld1 h759 h2.next 2 = some (.bool true) ∧
    (∃ i761 : Int, ld1 h759 h744.next 5 = some (.int .u64 i761) ∧
    (∃ i762 : Int, ld1 h759 h2.next 5 = some (.int .u64 i762) ∧
    (((i762 : Int) ≤ i761 → Q (.bool false) h759) ∧
    (¬ (i762 : Int) ≤ i761 → ∃ i763 : Int, ld1 h759 h2.next 0 = some (.int .u64 i763) ∧
    (Wf Try.prog K 29 [(.slice pa1 na1 ca1), (.int .u64 i763)] h759 fun r764 h765 =>
    (∃ (p766 : Option Addr) (n767 c768 : Nat), ∃ (p769 : Option Addr) (n770 c771 : Nat), r764 = (.tuple #[(.slice p766 n767 c768), (.slice p769 n770 c771)]) ∧
    (((ld1 h765 h2.next 2 = some (.bool true) ∧
    (((((n767 : Nat) : Int) : Int) = 1 → ∃ (p772 : Option Addr) (n773 c774 : Nat), ld1 h765 h2.next 10 = some (.slice p772 n773 c774) ∧
    (∃ I775 : Int → Nat → AH → Prop, (∃ n, I775 0 n h765) ∧
    ∀ (k776 : Nat) (h777 : AH) (i779 : Int), I775 i779 k776 h777 →
    ((i779 : Int) < ((n773 : Nat) : Int) → derefP p772 fun b780 o781 => (((0 : Int) ≤ i779) ∧ ((i779 : Int) < ((n773 : Nat) : Int)) ∧
    (∃ i782 : Int, ∃ i783 : Int, ∃ i784 : Int, ldN h777 b780 (o781 + Int.toNat i779 * 3) 3 = some ([(.int .i64 i782), (.int .u64 i783), (.int .u32 i784)] : List Value) ∧
    (∀ h785 : AH, h785 = h777.alloc (.cells ([(.int .i64 0), (.int .u64 0), (.int .u32 0)] : List Value) 25 false) →
    (List.length ([(.int .i64 i782), (.int .u64 i783), (.int .u32 i784)] : List Value) = 3) ∧ ∃ h786 : AH, stN h785 h777.next 0 ([(.int .i64 i782), (.int .u64 i783), (.int .u32 i784)] : List Value) = some h786 ∧
    (∃ i787 : Int, ld1 h786 h2.next 0 = some (.int .u64 i787) ∧
    (Wf Try.prog K 33 [(.slice pa1 na1 ca1), (.int .u64 i787)] h786 fun r788 h789 =>
    (∃ i790 : Int, r788 = (.int .u64 i790) ∧
    (∃ i791 : Int, ld1 h789 h777.next 1 = some (.int .u64 i791) ∧
    (((i790 : Int) < i791 → (ld1 h786 h777.next 1 = some (.int .u64 i791)) ∧
    ((ld1 h789 h777.next 1 = some (.int .u64 i791)) ∧
    (Q (.bool false) h789))) ∧
    (¬ (i790 : Int) < i791 → (ld1 h786 h777.next 1 = some (.int .u64 i791)) ∧
    ((ld1 h789 h777.next 1 = some (.int .u64 i791)) ∧
    (∀ i792 : Int, i792 = IntKind.wrap .i64 (i779 + 1) → ∃ j778, j778 < k776 ∧ I775 i792 j778 h789)))))))))))) ∧
    (¬ (i779 : Int) < ((n773 : Nat) : Int) → ∃ I793 : Int → Nat → AH → Prop, (∃ n, I793 0 n h777) ∧
    ∀ (k794 : Nat) (h795 : AH) (i797 : Int), I793 i797 k794 h795 →
    ((i797 : Int) < ((na1 : Nat) : Int) → derefP pa1 fun b798 o799 => (((0 : Int) ≤ i797) ∧ ((i797 : Int) < ((na1 : Nat) : Int)) ∧
    (∃ i800 : Int, ∃ s801 : ByteArray, ∃ b802 : Bool, ∃ i803 : Int, ∃ i804 : Int, ∃ i805 : Int, ∃ i806 : Int, ∃ i807 : Int, ∃ i808 : Int, ∃ i809 : Int, ∃ (p810 : Option Addr) (n811 c812 : Nat), ldN h795 b798 (o799 + Int.toNat i797 * 11) 11 = some ([(.int .u64 i800), (.string s801), (.bool b802), (.int .u64 i803), (.int .u64 i804), (.int .u64 i805), (.int .i64 i806), (.int .i64 i807), (.int .u64 i808), (.int .u32 i809), (.slice p810 n811 c812)] : List Value) ∧
    (∀ h813 : AH, h813 = h795.alloc (.cells ([(.int .u64 0), (.string (ByteArray.mk #[])), (.bool false), (.int .u64 0), (.int .u64 0), (.int .u64 0), (.int .i64 0), (.int .i64 0), (.int .u64 0), (.int .u32 0), (.slice none 0 0)] : List Value) 28 false) →
    (List.length ([(.int .u64 i800), (.string s801), (.bool b802), (.int .u64 i803), (.int .u64 i804), (.int .u64 i805), (.int .i64 i806), (.int .i64 i807), (.int .u64 i808), (.int .u32 i809), (.slice p810 n811 c812)] : List Value) = 11) ∧ ∃ h814 : AH, stN h813 h795.next 0 ([(.int .u64 i800), (.string s801), (.bool b802), (.int .u64 i803), (.int .u64 i804), (.int .u64 i805), (.int .i64 i806), (.int .i64 i807), (.int .u64 i808), (.int .u32 i809), (.slice p810 n811 c812)] : List Value) = some h814 ∧
    (((i797 : Int) = i4 → ∀ i815 : Int, i815 = IntKind.wrap .i64 (i797 + 1) → ∃ j796, j796 < k794 ∧ I793 i815 j796 h814) ∧
    (¬ (i797 : Int) = i4 → ((ld1 h814 h795.next 2 = some (.bool true) ∧
    (((ld1 h814 h2.next 2 = some (.bool true) ∧
    (∃ s816 : ByteArray, ld1 h814 h795.next 1 = some (.string s816) ∧
    (∃ s817 : ByteArray, ld1 h814 h2.next 1 = some (.string s817) ∧
    ((s816 = s817 → ((ld1 h814 h2.next 2 = some (.bool true) ∧
    (∃ i818 : Int, ld1 h814 h795.next 3 = some (.int .u64 i818) ∧
    (∃ i819 : Int, ld1 h814 h2.next 3 = some (.int .u64 i819) ∧
    (((i818 : Int) = i819 → Q (.bool false) h814) ∧
    (¬ (i818 : Int) = i819 → ∀ i820 : Int, i820 = IntKind.wrap .i64 (i797 + 1) → ∃ j796, j796 < k794 ∧ I793 i820 j796 h814))))) ∨ (ld1 h814 h2.next 2 = some (.bool false) ∧
    (Q (.bool false) h814)))) ∧
    (¬ s816 = s817 → ∀ i821 : Int, i821 = IntKind.wrap .i64 (i797 + 1) → ∃ j796, j796 < k794 ∧ I793 i821 j796 h814))))) ∨ (ld1 h814 h2.next 2 = some (.bool false) ∧
    (∀ i822 : Int, i822 = IntKind.wrap .i64 (i797 + 1) → ∃ j796, j796 < k794 ∧ I793 i822 j796 h814))))) ∨ (ld1 h814 h795.next 2 = some (.bool false) ∧
    (((ld1 h814 h2.next 2 = some (.bool true) ∧
    (∀ i823 : Int, i823 = IntKind.wrap .i64 (i797 + 1) → ∃ j796, j796 < k794 ∧ I793 i823 j796 h814)) ∨ (ld1 h814 h2.next 2 = some (.bool false) ∧
    (∃ s824 : ByteArray, ld1 h814 h795.next 1 = some (.string s824) ∧
    (∃ s825 : ByteArray, ld1 h814 h2.next 1 = some (.string s825) ∧
    ((s824 = s825 → ((ld1 h814 h2.next 2 = some (.bool true) ∧
    (∃ i826 : Int, ld1 h814 h795.next 3 = some (.int .u64 i826) ∧
    (∃ i827 : Int, ld1 h814 h2.next 3 = some (.int .u64 i827) ∧
    (((i826 : Int) = i827 → Q (.bool false) h814) ∧
    (¬ (i826 : Int) = i827 → ∀ i828 : Int, i828 = IntKind.wrap .i64 (i797 + 1) → ∃ j796, j796 < k794 ∧ I793 i828 j796 h814))))) ∨ (ld1 h814 h2.next 2 = some (.bool false) ∧
    (Q (.bool false) h814)))) ∧
    (¬ s824 = s825 → ∀ i829 : Int, i829 = IntKind.wrap .i64 (i797 + 1) → ∃ j796, j796 < k794 ∧ I793 i829 j796 h814))))))))))))))) ∧
    (¬ (i797 : Int) < ((na1 : Nat) : Int) → ∀ i830 : Int, i830 = IntKind.wrap .i64 (i4 + 1) → ∃ j3, j3 < k1 ∧ I0 i830 j3 h795)))) ∧
    (¬ (((n767 : Nat) : Int) : Int) = 1 → Q (.bool false) h765))) ∨ (ld1 h765 h2.next 2 = some (.bool false) ∧
    (∃ (p831 : Option Addr) (n832 c833 : Nat), ld1 h765 h2.next 10 = some (.slice p831 n832 c833) ∧
    (∃ I834 : Int → Nat → AH → Prop, (∃ n, I834 0 n h765) ∧
    ∀ (k835 : Nat) (h836 : AH) (i838 : Int), I834 i838 k835 h836 →
    ((i838 : Int) < ((n832 : Nat) : Int) → derefP p831 fun b839 o840 => (((0 : Int) ≤ i838) ∧ ((i838 : Int) < ((n832 : Nat) : Int)) ∧
    (∃ i841 : Int, ∃ i842 : Int, ∃ i843 : Int, ldN h836 b839 (o840 + Int.toNat i838 * 3) 3 = some ([(.int .i64 i841), (.int .u64 i842), (.int .u32 i843)] : List Value) ∧
    (∀ h844 : AH, h844 = h836.alloc (.cells ([(.int .i64 0), (.int .u64 0), (.int .u32 0)] : List Value) 25 false) →
    (List.length ([(.int .i64 i841), (.int .u64 i842), (.int .u32 i843)] : List Value) = 3) ∧ ∃ h845 : AH, stN h844 h836.next 0 ([(.int .i64 i841), (.int .u64 i842), (.int .u32 i843)] : List Value) = some h845 ∧
    (∃ i846 : Int, ld1 h845 h2.next 0 = some (.int .u64 i846) ∧
    (Wf Try.prog K 33 [(.slice pa1 na1 ca1), (.int .u64 i846)] h845 fun r847 h848 =>
    (∃ i849 : Int, r847 = (.int .u64 i849) ∧
    (∃ i850 : Int, ld1 h848 h836.next 1 = some (.int .u64 i850) ∧
    (((i849 : Int) < i850 → (ld1 h845 h836.next 1 = some (.int .u64 i850)) ∧
    ((ld1 h848 h836.next 1 = some (.int .u64 i850)) ∧
    (Q (.bool false) h848))) ∧
    (¬ (i849 : Int) < i850 → (ld1 h845 h836.next 1 = some (.int .u64 i850)) ∧
    ((ld1 h848 h836.next 1 = some (.int .u64 i850)) ∧
    (∀ i851 : Int, i851 = IntKind.wrap .i64 (i838 + 1) → ∃ j837, j837 < k835 ∧ I834 i851 j837 h848)))))))))))) ∧
    (¬ (i838 : Int) < ((n832 : Nat) : Int) → ∃ I852 : Int → Nat → AH → Prop, (∃ n, I852 0 n h836) ∧
    ∀ (k853 : Nat) (h854 : AH) (i856 : Int), I852 i856 k853 h854 →
    ((i856 : Int) < ((na1 : Nat) : Int) → derefP pa1 fun b857 o858 => (((0 : Int) ≤ i856) ∧ ((i856 : Int) < ((na1 : Nat) : Int)) ∧
    (∃ i859 : Int, ∃ s860 : ByteArray, ∃ b861 : Bool, ∃ i862 : Int, ∃ i863 : Int, ∃ i864 : Int, ∃ i865 : Int, ∃ i866 : Int, ∃ i867 : Int, ∃ i868 : Int, ∃ (p869 : Option Addr) (n870 c871 : Nat), ldN h854 b857 (o858 + Int.toNat i856 * 11) 11 = some ([(.int .u64 i859), (.string s860), (.bool b861), (.int .u64 i862), (.int .u64 i863), (.int .u64 i864), (.int .i64 i865), (.int .i64 i866), (.int .u64 i867), (.int .u32 i868), (.slice p869 n870 c871)] : List Value) ∧
    (∀ h872 : AH, h872 = h854.alloc (.cells ([(.int .u64 0), (.string (ByteArray.mk #[])), (.bool false), (.int .u64 0), (.int .u64 0), (.int .u64 0), (.int .i64 0), (.int .i64 0), (.int .u64 0), (.int .u32 0), (.slice none 0 0)] : List Value) 28 false) →
    (List.length ([(.int .u64 i859), (.string s860), (.bool b861), (.int .u64 i862), (.int .u64 i863), (.int .u64 i864), (.int .i64 i865), (.int .i64 i866), (.int .u64 i867), (.int .u32 i868), (.slice p869 n870 c871)] : List Value) = 11) ∧ ∃ h873 : AH, stN h872 h854.next 0 ([(.int .u64 i859), (.string s860), (.bool b861), (.int .u64 i862), (.int .u64 i863), (.int .u64 i864), (.int .i64 i865), (.int .i64 i866), (.int .u64 i867), (.int .u32 i868), (.slice p869 n870 c871)] : List Value) = some h873 ∧
    (((i856 : Int) = i4 → ∀ i874 : Int, i874 = IntKind.wrap .i64 (i856 + 1) → ∃ j855, j855 < k853 ∧ I852 i874 j855 h873) ∧
    (¬ (i856 : Int) = i4 → ((ld1 h873 h854.next 2 = some (.bool true) ∧
    (((ld1 h873 h2.next 2 = some (.bool true) ∧
    (∃ s875 : ByteArray, ld1 h873 h854.next 1 = some (.string s875) ∧
    (∃ s876 : ByteArray, ld1 h873 h2.next 1 = some (.string s876) ∧
    ((s875 = s876 → ((ld1 h873 h2.next 2 = some (.bool true) ∧
    (∃ i877 : Int, ld1 h873 h854.next 3 = some (.int .u64 i877) ∧
    (∃ i878 : Int, ld1 h873 h2.next 3 = some (.int .u64 i878) ∧
    (((i877 : Int) = i878 → Q (.bool false) h873) ∧
    (¬ (i877 : Int) = i878 → ∀ i879 : Int, i879 = IntKind.wrap .i64 (i856 + 1) → ∃ j855, j855 < k853 ∧ I852 i879 j855 h873))))) ∨ (ld1 h873 h2.next 2 = some (.bool false) ∧
    (Q (.bool false) h873)))) ∧
    (¬ s875 = s876 → ∀ i880 : Int, i880 = IntKind.wrap .i64 (i856 + 1) → ∃ j855, j855 < k853 ∧ I852 i880 j855 h873))))) ∨ (ld1 h873 h2.next 2 = some (.bool false) ∧
    (∀ i881 : Int, i881 = IntKind.wrap .i64 (i856 + 1) → ∃ j855, j855 < k853 ∧ I852 i881 j855 h873))))) ∨ (ld1 h873 h854.next 2 = some (.bool false) ∧
    (((ld1 h873 h2.next 2 = some (.bool true) ∧
    (∀ i882 : Int, i882 = IntKind.wrap .i64 (i856 + 1) → ∃ j855, j855 < k853 ∧ I852 i882 j855 h873)) ∨ (ld1 h873 h2.next 2 = some (.bool false) ∧
    (∃ s883 : ByteArray, ld1 h873 h854.next 1 = some (.string s883) ∧
    (∃ s884 : ByteArray, ld1 h873 h2.next 1 = some (.string s884) ∧
    ((s883 = s884 → ((ld1 h873 h2.next 2 = some (.bool true) ∧
    (∃ i885 : Int, ld1 h873 h854.next 3 = some (.int .u64 i885) ∧
    (∃ i886 : Int, ld1 h873 h2.next 3 = some (.int .u64 i886) ∧
    (((i885 : Int) = i886 → Q (.bool false) h873) ∧
    (¬ (i885 : Int) = i886 → ∀ i887 : Int, i887 = IntKind.wrap .i64 (i856 + 1) → ∃ j855, j855 < k853 ∧ I852 i887 j855 h873))))) ∨ (ld1 h873 h2.next 2 = some (.bool false) ∧
    (Q (.bool false) h873)))) ∧
    (¬ s883 = s884 → ∀ i888 : Int, i888 = IntKind.wrap .i64 (i856 + 1) → ∃ j855, j855 < k853 ∧ I852 i888 j855 h873))))))))))))))) ∧
    (¬ (i856 : Int) < ((na1 : Nat) : Int) → ∀ i889 : Int, i889 = IntKind.wrap .i64 (i4 + 1) → ∃ j3, j3 < k1 ∧ I0 i889 j3 h854)))))))))))))) ∨ (ld1 h759 h2.next 2 = some (.bool false) ∧
    (∃ i890 : Int, ld1 h759 h2.next 0 = some (.int .u64 i890) ∧
    (Wf Try.prog K 29 [(.slice pa1 na1 ca1), (.int .u64 i890)] h759 fun r891 h892 =>
    (∃ (p893 : Option Addr) (n894 c895 : Nat), ∃ (p896 : Option Addr) (n897 c898 : Nat), r891 = (.tuple #[(.slice p893 n894 c895), (.slice p896 n897 c898)]) ∧
    (((ld1 h892 h2.next 2 = some (.bool true) ∧
    (((((n894 : Nat) : Int) : Int) = 1 → ∃ (p899 : Option Addr) (n900 c901 : Nat), ld1 h892 h2.next 10 = some (.slice p899 n900 c901) ∧
    (∃ I902 : Int → Nat → AH → Prop, (∃ n, I902 0 n h892) ∧
    ∀ (k903 : Nat) (h904 : AH) (i906 : Int), I902 i906 k903 h904 →
    ((i906 : Int) < ((n900 : Nat) : Int) → derefP p899 fun b907 o908 => (((0 : Int) ≤ i906) ∧ ((i906 : Int) < ((n900 : Nat) : Int)) ∧
    (∃ i909 : Int, ∃ i910 : Int, ∃ i911 : Int, ldN h904 b907 (o908 + Int.toNat i906 * 3) 3 = some ([(.int .i64 i909), (.int .u64 i910), (.int .u32 i911)] : List Value) ∧
    (∀ h912 : AH, h912 = h904.alloc (.cells ([(.int .i64 0), (.int .u64 0), (.int .u32 0)] : List Value) 25 false) →
    (List.length ([(.int .i64 i909), (.int .u64 i910), (.int .u32 i911)] : List Value) = 3) ∧ ∃ h913 : AH, stN h912 h904.next 0 ([(.int .i64 i909), (.int .u64 i910), (.int .u32 i911)] : List Value) = some h913 ∧
    (∃ i914 : Int, ld1 h913 h2.next 0 = some (.int .u64 i914) ∧
    (Wf Try.prog K 33 [(.slice pa1 na1 ca1), (.int .u64 i914)] h913 fun r915 h916 =>
    (∃ i917 : Int, r915 = (.int .u64 i917) ∧
    (∃ i918 : Int, ld1 h916 h904.next 1 = some (.int .u64 i918) ∧
    (((i917 : Int) < i918 → (ld1 h913 h904.next 1 = some (.int .u64 i918)) ∧
    ((ld1 h916 h904.next 1 = some (.int .u64 i918)) ∧
    (Q (.bool false) h916))) ∧
    (¬ (i917 : Int) < i918 → (ld1 h913 h904.next 1 = some (.int .u64 i918)) ∧
    ((ld1 h916 h904.next 1 = some (.int .u64 i918)) ∧
    (∀ i919 : Int, i919 = IntKind.wrap .i64 (i906 + 1) → ∃ j905, j905 < k903 ∧ I902 i919 j905 h916)))))))))))) ∧
    (¬ (i906 : Int) < ((n900 : Nat) : Int) → ∃ I920 : Int → Nat → AH → Prop, (∃ n, I920 0 n h904) ∧
    ∀ (k921 : Nat) (h922 : AH) (i924 : Int), I920 i924 k921 h922 →
    ((i924 : Int) < ((na1 : Nat) : Int) → derefP pa1 fun b925 o926 => (((0 : Int) ≤ i924) ∧ ((i924 : Int) < ((na1 : Nat) : Int)) ∧
    (∃ i927 : Int, ∃ s928 : ByteArray, ∃ b929 : Bool, ∃ i930 : Int, ∃ i931 : Int, ∃ i932 : Int, ∃ i933 : Int, ∃ i934 : Int, ∃ i935 : Int, ∃ i936 : Int, ∃ (p937 : Option Addr) (n938 c939 : Nat), ldN h922 b925 (o926 + Int.toNat i924 * 11) 11 = some ([(.int .u64 i927), (.string s928), (.bool b929), (.int .u64 i930), (.int .u64 i931), (.int .u64 i932), (.int .i64 i933), (.int .i64 i934), (.int .u64 i935), (.int .u32 i936), (.slice p937 n938 c939)] : List Value) ∧
    (∀ h940 : AH, h940 = h922.alloc (.cells ([(.int .u64 0), (.string (ByteArray.mk #[])), (.bool false), (.int .u64 0), (.int .u64 0), (.int .u64 0), (.int .i64 0), (.int .i64 0), (.int .u64 0), (.int .u32 0), (.slice none 0 0)] : List Value) 28 false) →
    (List.length ([(.int .u64 i927), (.string s928), (.bool b929), (.int .u64 i930), (.int .u64 i931), (.int .u64 i932), (.int .i64 i933), (.int .i64 i934), (.int .u64 i935), (.int .u32 i936), (.slice p937 n938 c939)] : List Value) = 11) ∧ ∃ h941 : AH, stN h940 h922.next 0 ([(.int .u64 i927), (.string s928), (.bool b929), (.int .u64 i930), (.int .u64 i931), (.int .u64 i932), (.int .i64 i933), (.int .i64 i934), (.int .u64 i935), (.int .u32 i936), (.slice p937 n938 c939)] : List Value) = some h941 ∧
    (((i924 : Int) = i4 → ∀ i942 : Int, i942 = IntKind.wrap .i64 (i924 + 1) → ∃ j923, j923 < k921 ∧ I920 i942 j923 h941) ∧
    (¬ (i924 : Int) = i4 → ((ld1 h941 h922.next 2 = some (.bool true) ∧
    (((ld1 h941 h2.next 2 = some (.bool true) ∧
    (∃ s943 : ByteArray, ld1 h941 h922.next 1 = some (.string s943) ∧
    (∃ s944 : ByteArray, ld1 h941 h2.next 1 = some (.string s944) ∧
    ((s943 = s944 → ((ld1 h941 h2.next 2 = some (.bool true) ∧
    (∃ i945 : Int, ld1 h941 h922.next 3 = some (.int .u64 i945) ∧
    (∃ i946 : Int, ld1 h941 h2.next 3 = some (.int .u64 i946) ∧
    (((i945 : Int) = i946 → Q (.bool false) h941) ∧
    (¬ (i945 : Int) = i946 → ∀ i947 : Int, i947 = IntKind.wrap .i64 (i924 + 1) → ∃ j923, j923 < k921 ∧ I920 i947 j923 h941))))) ∨ (ld1 h941 h2.next 2 = some (.bool false) ∧
    (Q (.bool false) h941)))) ∧
    (¬ s943 = s944 → ∀ i948 : Int, i948 = IntKind.wrap .i64 (i924 + 1) → ∃ j923, j923 < k921 ∧ I920 i948 j923 h941))))) ∨ (ld1 h941 h2.next 2 = some (.bool false) ∧
    (∀ i949 : Int, i949 = IntKind.wrap .i64 (i924 + 1) → ∃ j923, j923 < k921 ∧ I920 i949 j923 h941))))) ∨ (ld1 h941 h922.next 2 = some (.bool false) ∧
    (((ld1 h941 h2.next 2 = some (.bool true) ∧
    (∀ i950 : Int, i950 = IntKind.wrap .i64 (i924 + 1) → ∃ j923, j923 < k921 ∧ I920 i950 j923 h941)) ∨ (ld1 h941 h2.next 2 = some (.bool false) ∧
    (∃ s951 : ByteArray, ld1 h941 h922.next 1 = some (.string s951) ∧
    (∃ s952 : ByteArray, ld1 h941 h2.next 1 = some (.string s952) ∧
    ((s951 = s952 → ((ld1 h941 h2.next 2 = some (.bool true) ∧
    (∃ i953 : Int, ld1 h941 h922.next 3 = some (.int .u64 i953) ∧
    (∃ i954 : Int, ld1 h941 h2.next 3 = some (.int .u64 i954) ∧
    (((i953 : Int) = i954 → Q (.bool false) h941) ∧
    (¬ (i953 : Int) = i954 → ∀ i955 : Int, i955 = IntKind.wrap .i64 (i924 + 1) → ∃ j923, j923 < k921 ∧ I920 i955 j923 h941))))) ∨ (ld1 h941 h2.next 2 = some (.bool false) ∧
    (Q (.bool false) h941)))) ∧
    (¬ s951 = s952 → ∀ i956 : Int, i956 = IntKind.wrap .i64 (i924 + 1) → ∃ j923, j923 < k921 ∧ I920 i956 j923 h941))))))))))))))) ∧
    (¬ (i924 : Int) < ((na1 : Nat) : Int) → ∀ i957 : Int, i957 = IntKind.wrap .i64 (i4 + 1) → ∃ j3, j3 < k1 ∧ I0 i957 j3 h922)))) ∧
    (¬ (((n894 : Nat) : Int) : Int) = 1 → Q (.bool false) h892))) ∨ (ld1 h892 h2.next 2 = some (.bool false) ∧
    (∃ (p958 : Option Addr) (n959 c960 : Nat), ld1 h892 h2.next 10 = some (.slice p958 n959 c960) ∧
    (∃ I961 : Int → Nat → AH → Prop, (∃ n, I961 0 n h892) ∧
    ∀ (k962 : Nat) (h963 : AH) (i965 : Int), I961 i965 k962 h963 →
    ((i965 : Int) < ((n959 : Nat) : Int) → derefP p958 fun b966 o967 => (((0 : Int) ≤ i965) ∧ ((i965 : Int) < ((n959 : Nat) : Int)) ∧
    (∃ i968 : Int, ∃ i969 : Int, ∃ i970 : Int, ldN h963 b966 (o967 + Int.toNat i965 * 3) 3 = some ([(.int .i64 i968), (.int .u64 i969), (.int .u32 i970)] : List Value) ∧
    (∀ h971 : AH, h971 = h963.alloc (.cells ([(.int .i64 0), (.int .u64 0), (.int .u32 0)] : List Value) 25 false) →
    (List.length ([(.int .i64 i968), (.int .u64 i969), (.int .u32 i970)] : List Value) = 3) ∧ ∃ h972 : AH, stN h971 h963.next 0 ([(.int .i64 i968), (.int .u64 i969), (.int .u32 i970)] : List Value) = some h972 ∧
    (∃ i973 : Int, ld1 h972 h2.next 0 = some (.int .u64 i973) ∧
    (Wf Try.prog K 33 [(.slice pa1 na1 ca1), (.int .u64 i973)] h972 fun r974 h975 =>
    (∃ i976 : Int, r974 = (.int .u64 i976) ∧
    (∃ i977 : Int, ld1 h975 h963.next 1 = some (.int .u64 i977) ∧
    (((i976 : Int) < i977 → (ld1 h972 h963.next 1 = some (.int .u64 i977)) ∧
    ((ld1 h975 h963.next 1 = some (.int .u64 i977)) ∧
    (Q (.bool false) h975))) ∧
    (¬ (i976 : Int) < i977 → (ld1 h972 h963.next 1 = some (.int .u64 i977)) ∧
    ((ld1 h975 h963.next 1 = some (.int .u64 i977)) ∧
    (∀ i978 : Int, i978 = IntKind.wrap .i64 (i965 + 1) → ∃ j964, j964 < k962 ∧ I961 i978 j964 h975)))))))))))) ∧
    (¬ (i965 : Int) < ((n959 : Nat) : Int) → ∃ I979 : Int → Nat → AH → Prop, (∃ n, I979 0 n h963) ∧
    ∀ (k980 : Nat) (h981 : AH) (i983 : Int), I979 i983 k980 h981 →
    ((i983 : Int) < ((na1 : Nat) : Int) → derefP pa1 fun b984 o985 => (((0 : Int) ≤ i983) ∧ ((i983 : Int) < ((na1 : Nat) : Int)) ∧
    (∃ i986 : Int, ∃ s987 : ByteArray, ∃ b988 : Bool, ∃ i989 : Int, ∃ i990 : Int, ∃ i991 : Int, ∃ i992 : Int, ∃ i993 : Int, ∃ i994 : Int, ∃ i995 : Int, ∃ (p996 : Option Addr) (n997 c998 : Nat), ldN h981 b984 (o985 + Int.toNat i983 * 11) 11 = some ([(.int .u64 i986), (.string s987), (.bool b988), (.int .u64 i989), (.int .u64 i990), (.int .u64 i991), (.int .i64 i992), (.int .i64 i993), (.int .u64 i994), (.int .u32 i995), (.slice p996 n997 c998)] : List Value) ∧
    (∀ h999 : AH, h999 = h981.alloc (.cells ([(.int .u64 0), (.string (ByteArray.mk #[])), (.bool false), (.int .u64 0), (.int .u64 0), (.int .u64 0), (.int .i64 0), (.int .i64 0), (.int .u64 0), (.int .u32 0), (.slice none 0 0)] : List Value) 28 false) →
    (List.length ([(.int .u64 i986), (.string s987), (.bool b988), (.int .u64 i989), (.int .u64 i990), (.int .u64 i991), (.int .i64 i992), (.int .i64 i993), (.int .u64 i994), (.int .u32 i995), (.slice p996 n997 c998)] : List Value) = 11) ∧ ∃ h1000 : AH, stN h999 h981.next 0 ([(.int .u64 i986), (.string s987), (.bool b988), (.int .u64 i989), (.int .u64 i990), (.int .u64 i991), (.int .i64 i992), (.int .i64 i993), (.int .u64 i994), (.int .u32 i995), (.slice p996 n997 c998)] : List Value) = some h1000 ∧
    (((i983 : Int) = i4 → ∀ i1001 : Int, i1001 = IntKind.wrap .i64 (i983 + 1) → ∃ j982, j982 < k980 ∧ I979 i1001 j982 h1000) ∧
    (¬ (i983 : Int) = i4 → ((ld1 h1000 h981.next 2 = some (.bool true) ∧
    (((ld1 h1000 h2.next 2 = some (.bool true) ∧
    (∃ s1002 : ByteArray, ld1 h1000 h981.next 1 = some (.string s1002) ∧
    (∃ s1003 : ByteArray, ld1 h1000 h2.next 1 = some (.string s1003) ∧
    ((s1002 = s1003 → ((ld1 h1000 h2.next 2 = some (.bool true) ∧
    (∃ i1004 : Int, ld1 h1000 h981.next 3 = some (.int .u64 i1004) ∧
    (∃ i1005 : Int, ld1 h1000 h2.next 3 = some (.int .u64 i1005) ∧
    (((i1004 : Int) = i1005 → Q (.bool false) h1000) ∧
    (¬ (i1004 : Int) = i1005 → ∀ i1006 : Int, i1006 = IntKind.wrap .i64 (i983 + 1) → ∃ j982, j982 < k980 ∧ I979 i1006 j982 h1000))))) ∨ (ld1 h1000 h2.next 2 = some (.bool false) ∧
    (Q (.bool false) h1000)))) ∧
    (¬ s1002 = s1003 → ∀ i1007 : Int, i1007 = IntKind.wrap .i64 (i983 + 1) → ∃ j982, j982 < k980 ∧ I979 i1007 j982 h1000))))) ∨ (ld1 h1000 h2.next 2 = some (.bool false) ∧
    (∀ i1008 : Int, i1008 = IntKind.wrap .i64 (i983 + 1) → ∃ j982, j982 < k980 ∧ I979 i1008 j982 h1000))))) ∨ (ld1 h1000 h981.next 2 = some (.bool false) ∧
    (((ld1 h1000 h2.next 2 = some (.bool true) ∧
    (∀ i1009 : Int, i1009 = IntKind.wrap .i64 (i983 + 1) → ∃ j982, j982 < k980 ∧ I979 i1009 j982 h1000)) ∨ (ld1 h1000 h2.next 2 = some (.bool false) ∧
    (∃ s1010 : ByteArray, ld1 h1000 h981.next 1 = some (.string s1010) ∧
    (∃ s1011 : ByteArray, ld1 h1000 h2.next 1 = some (.string s1011) ∧
    ((s1010 = s1011 → ((ld1 h1000 h2.next 2 = some (.bool true) ∧
    (∃ i1012 : Int, ld1 h1000 h981.next 3 = some (.int .u64 i1012) ∧
    (∃ i1013 : Int, ld1 h1000 h2.next 3 = some (.int .u64 i1013) ∧
    (((i1012 : Int) = i1013 → Q (.bool false) h1000) ∧
    (¬ (i1012 : Int) = i1013 → ∀ i1014 : Int, i1014 = IntKind.wrap .i64 (i983 + 1) → ∃ j982, j982 < k980 ∧ I979 i1014 j982 h1000))))) ∨ (ld1 h1000 h2.next 2 = some (.bool false) ∧
    (Q (.bool false) h1000)))) ∧
    (¬ s1010 = s1011 → ∀ i1015 : Int, i1015 = IntKind.wrap .i64 (i983 + 1) → ∃ j982, j982 < k980 ∧ I979 i1015 j982 h1000))))))))))))))) ∧
    (¬ (i983 : Int) < ((na1 : Nat) : Int) → ∀ i1016 : Int, i1016 = IntKind.wrap .i64 (i4 + 1) → ∃ j3, j3 < k1 ∧ I0 i1016 j3 h981))))))))))))) ∧
    (¬ (i760 : Int) = 0 → ((ld1 h759 h744.next 2 = some (.bool true) ∧
    (((ld1 h759 h2.next 2 = some (.bool true) ∧
    (∃ i1017 : Int, ld1 h759 h744.next 5 = some (.int .u64 i1017) ∧
    (∃ i1018 : Int, ld1 h759 h2.next 5 = some (.int .u64 i1018) ∧
    (((i1018 : Int) ≤ i1017 → Q (.bool false) h759) ∧
    (¬ (i1018 : Int) ≤ i1017 → ∃ i1019 : Int, ld1 h759 h2.next 0 = some (.int .u64 i1019) ∧
    (Wf Try.prog K 29 [(.slice pa1 na1 ca1), (.int .u64 i1019)] h759 fun r1020 h1021 =>
    (∃ (p1022 : Option Addr) (n1023 c1024 : Nat), ∃ (p1025 : Option Addr) (n1026 c1027 : Nat), r1020 = (.tuple #[(.slice p1022 n1023 c1024), (.slice p1025 n1026 c1027)]) ∧
    (((ld1 h1021 h2.next 2 = some (.bool true) ∧
    (((((n1023 : Nat) : Int) : Int) = 1 → ∃ (p1028 : Option Addr) (n1029 c1030 : Nat), ld1 h1021 h2.next 10 = some (.slice p1028 n1029 c1030) ∧
    (∃ I1031 : Int → Nat → AH → Prop, (∃ n, I1031 0 n h1021) ∧
    ∀ (k1032 : Nat) (h1033 : AH) (i1035 : Int), I1031 i1035 k1032 h1033 →
    ((i1035 : Int) < ((n1029 : Nat) : Int) → derefP p1028 fun b1036 o1037 => (((0 : Int) ≤ i1035) ∧ ((i1035 : Int) < ((n1029 : Nat) : Int)) ∧
    (∃ i1038 : Int, ∃ i1039 : Int, ∃ i1040 : Int, ldN h1033 b1036 (o1037 + Int.toNat i1035 * 3) 3 = some ([(.int .i64 i1038), (.int .u64 i1039), (.int .u32 i1040)] : List Value) ∧
    (∀ h1041 : AH, h1041 = h1033.alloc (.cells ([(.int .i64 0), (.int .u64 0), (.int .u32 0)] : List Value) 25 false) →
    (List.length ([(.int .i64 i1038), (.int .u64 i1039), (.int .u32 i1040)] : List Value) = 3) ∧ ∃ h1042 : AH, stN h1041 h1033.next 0 ([(.int .i64 i1038), (.int .u64 i1039), (.int .u32 i1040)] : List Value) = some h1042 ∧
    (∃ i1043 : Int, ld1 h1042 h2.next 0 = some (.int .u64 i1043) ∧
    (Wf Try.prog K 33 [(.slice pa1 na1 ca1), (.int .u64 i1043)] h1042 fun r1044 h1045 =>
    (∃ i1046 : Int, r1044 = (.int .u64 i1046) ∧
    (∃ i1047 : Int, ld1 h1045 h1033.next 1 = some (.int .u64 i1047) ∧
    (((i1046 : Int) < i1047 → (ld1 h1042 h1033.next 1 = some (.int .u64 i1047)) ∧
    ((ld1 h1045 h1033.next 1 = some (.int .u64 i1047)) ∧
    (Q (.bool false) h1045))) ∧
    (¬ (i1046 : Int) < i1047 → (ld1 h1042 h1033.next 1 = some (.int .u64 i1047)) ∧
    ((ld1 h1045 h1033.next 1 = some (.int .u64 i1047)) ∧
    (∀ i1048 : Int, i1048 = IntKind.wrap .i64 (i1035 + 1) → ∃ j1034, j1034 < k1032 ∧ I1031 i1048 j1034 h1045)))))))))))) ∧
    (¬ (i1035 : Int) < ((n1029 : Nat) : Int) → ∃ I1049 : Int → Nat → AH → Prop, (∃ n, I1049 0 n h1033) ∧
    ∀ (k1050 : Nat) (h1051 : AH) (i1053 : Int), I1049 i1053 k1050 h1051 →
    ((i1053 : Int) < ((na1 : Nat) : Int) → derefP pa1 fun b1054 o1055 => (((0 : Int) ≤ i1053) ∧ ((i1053 : Int) < ((na1 : Nat) : Int)) ∧
    (∃ i1056 : Int, ∃ s1057 : ByteArray, ∃ b1058 : Bool, ∃ i1059 : Int, ∃ i1060 : Int, ∃ i1061 : Int, ∃ i1062 : Int, ∃ i1063 : Int, ∃ i1064 : Int, ∃ i1065 : Int, ∃ (p1066 : Option Addr) (n1067 c1068 : Nat), ldN h1051 b1054 (o1055 + Int.toNat i1053 * 11) 11 = some ([(.int .u64 i1056), (.string s1057), (.bool b1058), (.int .u64 i1059), (.int .u64 i1060), (.int .u64 i1061), (.int .i64 i1062), (.int .i64 i1063), (.int .u64 i1064), (.int .u32 i1065), (.slice p1066 n1067 c1068)] : List Value) ∧
    (∀ h1069 : AH, h1069 = h1051.alloc (.cells ([(.int .u64 0), (.string (ByteArray.mk #[])), (.bool false), (.int .u64 0), (.int .u64 0), (.int .u64 0), (.int .i64 0), (.int .i64 0), (.int .u64 0), (.int .u32 0), (.slice none 0 0)] : List Value) 28 false) →
    (List.length ([(.int .u64 i1056), (.string s1057), (.bool b1058), (.int .u64 i1059), (.int .u64 i1060), (.int .u64 i1061), (.int .i64 i1062), (.int .i64 i1063), (.int .u64 i1064), (.int .u32 i1065), (.slice p1066 n1067 c1068)] : List Value) = 11) ∧ ∃ h1070 : AH, stN h1069 h1051.next 0 ([(.int .u64 i1056), (.string s1057), (.bool b1058), (.int .u64 i1059), (.int .u64 i1060), (.int .u64 i1061), (.int .i64 i1062), (.int .i64 i1063), (.int .u64 i1064), (.int .u32 i1065), (.slice p1066 n1067 c1068)] : List Value) = some h1070 ∧
    (((i1053 : Int) = i4 → ∀ i1071 : Int, i1071 = IntKind.wrap .i64 (i1053 + 1) → ∃ j1052, j1052 < k1050 ∧ I1049 i1071 j1052 h1070) ∧
    (¬ (i1053 : Int) = i4 → ((ld1 h1070 h1051.next 2 = some (.bool true) ∧
    (((ld1 h1070 h2.next 2 = some (.bool true) ∧
    (∃ s1072 : ByteArray, ld1 h1070 h1051.next 1 = some (.string s1072) ∧
    (∃ s1073 : ByteArray, ld1 h1070 h2.next 1 = some (.string s1073) ∧
    ((s1072 = s1073 → ((ld1 h1070 h2.next 2 = some (.bool true) ∧
    (∃ i1074 : Int, ld1 h1070 h1051.next 3 = some (.int .u64 i1074) ∧
    (∃ i1075 : Int, ld1 h1070 h2.next 3 = some (.int .u64 i1075) ∧
    (((i1074 : Int) = i1075 → Q (.bool false) h1070) ∧
    (¬ (i1074 : Int) = i1075 → ∀ i1076 : Int, i1076 = IntKind.wrap .i64 (i1053 + 1) → ∃ j1052, j1052 < k1050 ∧ I1049 i1076 j1052 h1070))))) ∨ (ld1 h1070 h2.next 2 = some (.bool false) ∧
    (Q (.bool false) h1070)))) ∧
    (¬ s1072 = s1073 → ∀ i1077 : Int, i1077 = IntKind.wrap .i64 (i1053 + 1) → ∃ j1052, j1052 < k1050 ∧ I1049 i1077 j1052 h1070))))) ∨ (ld1 h1070 h2.next 2 = some (.bool false) ∧
    (∀ i1078 : Int, i1078 = IntKind.wrap .i64 (i1053 + 1) → ∃ j1052, j1052 < k1050 ∧ I1049 i1078 j1052 h1070))))) ∨ (ld1 h1070 h1051.next 2 = some (.bool false) ∧
    (((ld1 h1070 h2.next 2 = some (.bool true) ∧
    (∀ i1079 : Int, i1079 = IntKind.wrap .i64 (i1053 + 1) → ∃ j1052, j1052 < k1050 ∧ I1049 i1079 j1052 h1070)) ∨ (ld1 h1070 h2.next 2 = some (.bool false) ∧
    (∃ s1080 : ByteArray, ld1 h1070 h1051.next 1 = some (.string s1080) ∧
    (∃ s1081 : ByteArray, ld1 h1070 h2.next 1 = some (.string s1081) ∧
    ((s1080 = s1081 → ((ld1 h1070 h2.next 2 = some (.bool true) ∧
    (∃ i1082 : Int, ld1 h1070 h1051.next 3 = some (.int .u64 i1082) ∧
    (∃ i1083 : Int, ld1 h1070 h2.next 3 = some (.int .u64 i1083) ∧
    (((i1082 : Int) = i1083 → Q (.bool false) h1070) ∧
    (¬ (i1082 : Int) = i1083 → ∀ i1084 : Int, i1084 = IntKind.wrap .i64 (i1053 + 1) → ∃ j1052, j1052 < k1050 ∧ I1049 i1084 j1052 h1070))))) ∨ (ld1 h1070 h2.next 2 = some (.bool false) ∧
    (Q (.bool false) h1070)))) ∧
    (¬ s1080 = s1081 → ∀ i1085 : Int, i1085 = IntKind.wrap .i64 (i1053 + 1) → ∃ j1052, j1052 < k1050 ∧ I1049 i1085 j1052 h1070))))))))))))))) ∧
    (¬ (i1053 : Int) < ((na1 : Nat) : Int) → ∀ i1086 : Int, i1086 = IntKind.wrap .i64 (i4 + 1) → ∃ j3, j3 < k1 ∧ I0 i1086 j3 h1051)))) ∧
    (¬ (((n1023 : Nat) : Int) : Int) = 1 → Q (.bool false) h1021))) ∨ (ld1 h1021 h2.next 2 = some (.bool false) ∧
    (∃ (p1087 : Option Addr) (n1088 c1089 : Nat), ld1 h1021 h2.next 10 = some (.slice p1087 n1088 c1089) ∧
    (∃ I1090 : Int → Nat → AH → Prop, (∃ n, I1090 0 n h1021) ∧
    ∀ (k1091 : Nat) (h1092 : AH) (i1094 : Int), I1090 i1094 k1091 h1092 →
    ((i1094 : Int) < ((n1088 : Nat) : Int) → derefP p1087 fun b1095 o1096 => (((0 : Int) ≤ i1094) ∧ ((i1094 : Int) < ((n1088 : Nat) : Int)) ∧
    (∃ i1097 : Int, ∃ i1098 : Int, ∃ i1099 : Int, ldN h1092 b1095 (o1096 + Int.toNat i1094 * 3) 3 = some ([(.int .i64 i1097), (.int .u64 i1098), (.int .u32 i1099)] : List Value) ∧
    (∀ h1100 : AH, h1100 = h1092.alloc (.cells ([(.int .i64 0), (.int .u64 0), (.int .u32 0)] : List Value) 25 false) →
    (List.length ([(.int .i64 i1097), (.int .u64 i1098), (.int .u32 i1099)] : List Value) = 3) ∧ ∃ h1101 : AH, stN h1100 h1092.next 0 ([(.int .i64 i1097), (.int .u64 i1098), (.int .u32 i1099)] : List Value) = some h1101 ∧
    (∃ i1102 : Int, ld1 h1101 h2.next 0 = some (.int .u64 i1102) ∧
    (Wf Try.prog K 33 [(.slice pa1 na1 ca1), (.int .u64 i1102)] h1101 fun r1103 h1104 =>
    (∃ i1105 : Int, r1103 = (.int .u64 i1105) ∧
    (∃ i1106 : Int, ld1 h1104 h1092.next 1 = some (.int .u64 i1106) ∧
    (((i1105 : Int) < i1106 → (ld1 h1101 h1092.next 1 = some (.int .u64 i1106)) ∧
    ((ld1 h1104 h1092.next 1 = some (.int .u64 i1106)) ∧
    (Q (.bool false) h1104))) ∧
    (¬ (i1105 : Int) < i1106 → (ld1 h1101 h1092.next 1 = some (.int .u64 i1106)) ∧
    ((ld1 h1104 h1092.next 1 = some (.int .u64 i1106)) ∧
    (∀ i1107 : Int, i1107 = IntKind.wrap .i64 (i1094 + 1) → ∃ j1093, j1093 < k1091 ∧ I1090 i1107 j1093 h1104)))))))))))) ∧
    (¬ (i1094 : Int) < ((n1088 : Nat) : Int) → ∃ I1108 : Int → Nat → AH → Prop, (∃ n, I1108 0 n h1092) ∧
    ∀ (k1109 : Nat) (h1110 : AH) (i1112 : Int), I1108 i1112 k1109 h1110 →
    ((i1112 : Int) < ((na1 : Nat) : Int) → derefP pa1 fun b1113 o1114 => (((0 : Int) ≤ i1112) ∧ ((i1112 : Int) < ((na1 : Nat) : Int)) ∧
    (∃ i1115 : Int, ∃ s1116 : ByteArray, ∃ b1117 : Bool, ∃ i1118 : Int, ∃ i1119 : Int, ∃ i1120 : Int, ∃ i1121 : Int, ∃ i1122 : Int, ∃ i1123 : Int, ∃ i1124 : Int, ∃ (p1125 : Option Addr) (n1126 c1127 : Nat), ldN h1110 b1113 (o1114 + Int.toNat i1112 * 11) 11 = some ([(.int .u64 i1115), (.string s1116), (.bool b1117), (.int .u64 i1118), (.int .u64 i1119), (.int .u64 i1120), (.int .i64 i1121), (.int .i64 i1122), (.int .u64 i1123), (.int .u32 i1124), (.slice p1125 n1126 c1127)] : List Value) ∧
    (∀ h1128 : AH, h1128 = h1110.alloc (.cells ([(.int .u64 0), (.string (ByteArray.mk #[])), (.bool false), (.int .u64 0), (.int .u64 0), (.int .u64 0), (.int .i64 0), (.int .i64 0), (.int .u64 0), (.int .u32 0), (.slice none 0 0)] : List Value) 28 false) →
    (List.length ([(.int .u64 i1115), (.string s1116), (.bool b1117), (.int .u64 i1118), (.int .u64 i1119), (.int .u64 i1120), (.int .i64 i1121), (.int .i64 i1122), (.int .u64 i1123), (.int .u32 i1124), (.slice p1125 n1126 c1127)] : List Value) = 11) ∧ ∃ h1129 : AH, stN h1128 h1110.next 0 ([(.int .u64 i1115), (.string s1116), (.bool b1117), (.int .u64 i1118), (.int .u64 i1119), (.int .u64 i1120), (.int .i64 i1121), (.int .i64 i1122), (.int .u64 i1123), (.int .u32 i1124), (.slice p1125 n1126 c1127)] : List Value) = some h1129 ∧
    (((i1112 : Int) = i4 → ∀ i1130 : Int, i1130 = IntKind.wrap .i64 (i1112 + 1) → ∃ j1111, j1111 < k1109 ∧ I1108 i1130 j1111 h1129) ∧
    (¬ (i1112 : Int) = i4 → ((ld1 h1129 h1110.next 2 = some (.bool true) ∧
    (((ld1 h1129 h2.next 2 = some (.bool true) ∧
    (∃ s1131 : ByteArray, ld1 h1129 h1110.next 1 = some (.string s1131) ∧
    (∃ s1132 : ByteArray, ld1 h1129 h2.next 1 = some (.string s1132) ∧
    ((s1131 = s1132 → ((ld1 h1129 h2.next 2 = some (.bool true) ∧
    (∃ i1133 : Int, ld1 h1129 h1110.next 3 = some (.int .u64 i1133) ∧
    (∃ i1134 : Int, ld1 h1129 h2.next 3 = some (.int .u64 i1134) ∧
    (((i1133 : Int) = i1134 → Q (.bool false) h1129) ∧
    (¬ (i1133 : Int) = i1134 → ∀ i1135 : Int, i1135 = IntKind.wrap .i64 (i1112 + 1) → ∃ j1111, j1111 < k1109 ∧ I1108 i1135 j1111 h1129))))) ∨ (ld1 h1129 h2.next 2 = some (.bool false) ∧
    (Q (.bool false) h1129)))) ∧
    (¬ s1131 = s1132 → ∀ i1136 : Int, i1136 = IntKind.wrap .i64 (i1112 + 1) → ∃ j1111, j1111 < k1109 ∧ I1108 i1136 j1111 h1129))))) ∨ (ld1 h1129 h2.next 2 = some (.bool false) ∧
    (∀ i1137 : Int, i1137 = IntKind.wrap .i64 (i1112 + 1) → ∃ j1111, j1111 < k1109 ∧ I1108 i1137 j1111 h1129))))) ∨ (ld1 h1129 h1110.next 2 = some (.bool false) ∧
    (((ld1 h1129 h2.next 2 = some (.bool true) ∧
    (∀ i1138 : Int, i1138 = IntKind.wrap .i64 (i1112 + 1) → ∃ j1111, j1111 < k1109 ∧ I1108 i1138 j1111 h1129)) ∨ (ld1 h1129 h2.next 2 = some (.bool false) ∧
    (∃ s1139 : ByteArray, ld1 h1129 h1110.next 1 = some (.string s1139) ∧
    (∃ s1140 : ByteArray, ld1 h1129 h2.next 1 = some (.string s1140) ∧
    ((s1139 = s1140 → ((ld1 h1129 h2.next 2 = some (.bool true) ∧
    (∃ i1141 : Int, ld1 h1129 h1110.next 3 = some (.int .u64 i1141) ∧
    (∃ i1142 : Int, ld1 h1129 h2.next 3 = some (.int .u64 i1142) ∧
    (((i1141 : Int) = i1142 → Q (.bool false) h1129) ∧
    (¬ (i1141 : Int) = i1142 → ∀ i1143 : Int, i1143 = IntKind.wrap .i64 (i1112 + 1) → ∃ j1111, j1111 < k1109 ∧ I1108 i1143 j1111 h1129))))) ∨ (ld1 h1129 h2.next 2 = some (.bool false) ∧
    (Q (.bool false) h1129)))) ∧
    (¬ s1139 = s1140 → ∀ i1144 : Int, i1144 = IntKind.wrap .i64 (i1112 + 1) → ∃ j1111, j1111 < k1109 ∧ I1108 i1144 j1111 h1129))))))))))))))) ∧
    (¬ (i1112 : Int) < ((na1 : Nat) : Int) → ∀ i1145 : Int, i1145 = IntKind.wrap .i64 (i4 + 1) → ∃ j3, j3 < k1 ∧ I0 i1145 j3 h1110)))))))))))))) ∨ (ld1 h759 h2.next 2 = some (.bool false) ∧
    (∃ i1146 : Int, ld1 h759 h2.next 0 = some (.int .u64 i1146) ∧
    (Wf Try.prog K 29 [(.slice pa1 na1 ca1), (.int .u64 i1146)] h759 fun r1147 h1148 =>
    (∃ (p1149 : Option Addr) (n1150 c1151 : Nat), ∃ (p1152 : Option Addr) (n1153 c1154 : Nat), r1147 = (.tuple #[(.slice p1149 n1150 c1151), (.slice p1152 n1153 c1154)]) ∧
    (((ld1 h1148 h2.next 2 = some (.bool true) ∧
    (((((n1150 : Nat) : Int) : Int) = 1 → ∃ (p1155 : Option Addr) (n1156 c1157 : Nat), ld1 h1148 h2.next 10 = some (.slice p1155 n1156 c1157) ∧
    (∃ I1158 : Int → Nat → AH → Prop, (∃ n, I1158 0 n h1148) ∧
    ∀ (k1159 : Nat) (h1160 : AH) (i1162 : Int), I1158 i1162 k1159 h1160 →
    ((i1162 : Int) < ((n1156 : Nat) : Int) → derefP p1155 fun b1163 o1164 => (((0 : Int) ≤ i1162) ∧ ((i1162 : Int) < ((n1156 : Nat) : Int)) ∧
    (∃ i1165 : Int, ∃ i1166 : Int, ∃ i1167 : Int, ldN h1160 b1163 (o1164 + Int.toNat i1162 * 3) 3 = some ([(.int .i64 i1165), (.int .u64 i1166), (.int .u32 i1167)] : List Value) ∧
    (∀ h1168 : AH, h1168 = h1160.alloc (.cells ([(.int .i64 0), (.int .u64 0), (.int .u32 0)] : List Value) 25 false) →
    (List.length ([(.int .i64 i1165), (.int .u64 i1166), (.int .u32 i1167)] : List Value) = 3) ∧ ∃ h1169 : AH, stN h1168 h1160.next 0 ([(.int .i64 i1165), (.int .u64 i1166), (.int .u32 i1167)] : List Value) = some h1169 ∧
    (∃ i1170 : Int, ld1 h1169 h2.next 0 = some (.int .u64 i1170) ∧
    (Wf Try.prog K 33 [(.slice pa1 na1 ca1), (.int .u64 i1170)] h1169 fun r1171 h1172 =>
    (∃ i1173 : Int, r1171 = (.int .u64 i1173) ∧
    (∃ i1174 : Int, ld1 h1172 h1160.next 1 = some (.int .u64 i1174) ∧
    (((i1173 : Int) < i1174 → (ld1 h1169 h1160.next 1 = some (.int .u64 i1174)) ∧
    ((ld1 h1172 h1160.next 1 = some (.int .u64 i1174)) ∧
    (Q (.bool false) h1172))) ∧
    (¬ (i1173 : Int) < i1174 → (ld1 h1169 h1160.next 1 = some (.int .u64 i1174)) ∧
    ((ld1 h1172 h1160.next 1 = some (.int .u64 i1174)) ∧
    (∀ i1175 : Int, i1175 = IntKind.wrap .i64 (i1162 + 1) → ∃ j1161, j1161 < k1159 ∧ I1158 i1175 j1161 h1172)))))))))))) ∧
    (¬ (i1162 : Int) < ((n1156 : Nat) : Int) → ∃ I1176 : Int → Nat → AH → Prop, (∃ n, I1176 0 n h1160) ∧
    ∀ (k1177 : Nat) (h1178 : AH) (i1180 : Int), I1176 i1180 k1177 h1178 →
    ((i1180 : Int) < ((na1 : Nat) : Int) → derefP pa1 fun b1181 o1182 => (((0 : Int) ≤ i1180) ∧ ((i1180 : Int) < ((na1 : Nat) : Int)) ∧
    (∃ i1183 : Int, ∃ s1184 : ByteArray, ∃ b1185 : Bool, ∃ i1186 : Int, ∃ i1187 : Int, ∃ i1188 : Int, ∃ i1189 : Int, ∃ i1190 : Int, ∃ i1191 : Int, ∃ i1192 : Int, ∃ (p1193 : Option Addr) (n1194 c1195 : Nat), ldN h1178 b1181 (o1182 + Int.toNat i1180 * 11) 11 = some ([(.int .u64 i1183), (.string s1184), (.bool b1185), (.int .u64 i1186), (.int .u64 i1187), (.int .u64 i1188), (.int .i64 i1189), (.int .i64 i1190), (.int .u64 i1191), (.int .u32 i1192), (.slice p1193 n1194 c1195)] : List Value) ∧
    (∀ h1196 : AH, h1196 = h1178.alloc (.cells ([(.int .u64 0), (.string (ByteArray.mk #[])), (.bool false), (.int .u64 0), (.int .u64 0), (.int .u64 0), (.int .i64 0), (.int .i64 0), (.int .u64 0), (.int .u32 0), (.slice none 0 0)] : List Value) 28 false) →
    (List.length ([(.int .u64 i1183), (.string s1184), (.bool b1185), (.int .u64 i1186), (.int .u64 i1187), (.int .u64 i1188), (.int .i64 i1189), (.int .i64 i1190), (.int .u64 i1191), (.int .u32 i1192), (.slice p1193 n1194 c1195)] : List Value) = 11) ∧ ∃ h1197 : AH, stN h1196 h1178.next 0 ([(.int .u64 i1183), (.string s1184), (.bool b1185), (.int .u64 i1186), (.int .u64 i1187), (.int .u64 i1188), (.int .i64 i1189), (.int .i64 i1190), (.int .u64 i1191), (.int .u32 i1192), (.slice p1193 n1194 c1195)] : List Value) = some h1197 ∧
    (((i1180 : Int) = i4 → ∀ i1198 : Int, i1198 = IntKind.wrap .i64 (i1180 + 1) → ∃ j1179, j1179 < k1177 ∧ I1176 i1198 j1179 h1197) ∧
    (¬ (i1180 : Int) = i4 → ((ld1 h1197 h1178.next 2 = some (.bool true) ∧
    (((ld1 h1197 h2.next 2 = some (.bool true) ∧
    (∃ s1199 : ByteArray, ld1 h1197 h1178.next 1 = some (.string s1199) ∧
    (∃ s1200 : ByteArray, ld1 h1197 h2.next 1 = some (.string s1200) ∧
    ((s1199 = s1200 → ((ld1 h1197 h2.next 2 = some (.bool true) ∧
    (∃ i1201 : Int, ld1 h1197 h1178.next 3 = some (.int .u64 i1201) ∧
    (∃ i1202 : Int, ld1 h1197 h2.next 3 = some (.int .u64 i1202) ∧
    (((i1201 : Int) = i1202 → Q (.bool false) h1197) ∧
    (¬ (i1201 : Int) = i1202 → ∀ i1203 : Int, i1203 = IntKind.wrap .i64 (i1180 + 1) → ∃ j1179, j1179 < k1177 ∧ I1176 i1203 j1179 h1197))))) ∨ (ld1 h1197 h2.next 2 = some (.bool false) ∧
    (Q (.bool false) h1197)))) ∧
    (¬ s1199 = s1200 → ∀ i1204 : Int, i1204 = IntKind.wrap .i64 (i1180 + 1) → ∃ j1179, j1179 < k1177 ∧ I1176 i1204 j1179 h1197))))) ∨ (ld1 h1197 h2.next 2 = some (.bool false) ∧
    (∀ i1205 : Int, i1205 = IntKind.wrap .i64 (i1180 + 1) → ∃ j1179, j1179 < k1177 ∧ I1176 i1205 j1179 h1197))))) ∨ (ld1 h1197 h1178.next 2 = some (.bool false) ∧
    (((ld1 h1197 h2.next 2 = some (.bool true) ∧
    (∀ i1206 : Int, i1206 = IntKind.wrap .i64 (i1180 + 1) → ∃ j1179, j1179 < k1177 ∧ I1176 i1206 j1179 h1197)) ∨ (ld1 h1197 h2.next 2 = some (.bool false) ∧
    (∃ s1207 : ByteArray, ld1 h1197 h1178.next 1 = some (.string s1207) ∧
    (∃ s1208 : ByteArray, ld1 h1197 h2.next 1 = some (.string s1208) ∧
    ((s1207 = s1208 → ((ld1 h1197 h2.next 2 = some (.bool true) ∧
    (∃ i1209 : Int, ld1 h1197 h1178.next 3 = some (.int .u64 i1209) ∧
    (∃ i1210 : Int, ld1 h1197 h2.next 3 = some (.int .u64 i1210) ∧
    (((i1209 : Int) = i1210 → Q (.bool false) h1197) ∧
    (¬ (i1209 : Int) = i1210 → ∀ i1211 : Int, i1211 = IntKind.wrap .i64 (i1180 + 1) → ∃ j1179, j1179 < k1177 ∧ I1176 i1211 j1179 h1197))))) ∨ (ld1 h1197 h2.next 2 = some (.bool false) ∧
    (Q (.bool false) h1197)))) ∧
    (¬ s1207 = s1208 → ∀ i1212 : Int, i1212 = IntKind.wrap .i64 (i1180 + 1) → ∃ j1179, j1179 < k1177 ∧ I1176 i1212 j1179 h1197))))))))))))))) ∧
    (¬ (i1180 : Int) < ((na1 : Nat) : Int) → ∀ i1213 : Int, i1213 = IntKind.wrap .i64 (i4 + 1) → ∃ j3, j3 < k1 ∧ I0 i1213 j3 h1178)))) ∧
    (¬ (((n1150 : Nat) : Int) : Int) = 1 → Q (.bool false) h1148))) ∨ (ld1 h1148 h2.next 2 = some (.bool false) ∧
    (∃ (p1214 : Option Addr) (n1215 c1216 : Nat), ld1 h1148 h2.next 10 = some (.slice p1214 n1215 c1216) ∧
    (∃ I1217 : Int → Nat → AH → Prop, (∃ n, I1217 0 n h1148) ∧
    ∀ (k1218 : Nat) (h1219 : AH) (i1221 : Int), I1217 i1221 k1218 h1219 →
    ((i1221 : Int) < ((n1215 : Nat) : Int) → derefP p1214 fun b1222 o1223 => (((0 : Int) ≤ i1221) ∧ ((i1221 : Int) < ((n1215 : Nat) : Int)) ∧
    (∃ i1224 : Int, ∃ i1225 : Int, ∃ i1226 : Int, ldN h1219 b1222 (o1223 + Int.toNat i1221 * 3) 3 = some ([(.int .i64 i1224), (.int .u64 i1225), (.int .u32 i1226)] : List Value) ∧
    (∀ h1227 : AH, h1227 = h1219.alloc (.cells ([(.int .i64 0), (.int .u64 0), (.int .u32 0)] : List Value) 25 false) →
    (List.length ([(.int .i64 i1224), (.int .u64 i1225), (.int .u32 i1226)] : List Value) = 3) ∧ ∃ h1228 : AH, stN h1227 h1219.next 0 ([(.int .i64 i1224), (.int .u64 i1225), (.int .u32 i1226)] : List Value) = some h1228 ∧
    (∃ i1229 : Int, ld1 h1228 h2.next 0 = some (.int .u64 i1229) ∧
    (Wf Try.prog K 33 [(.slice pa1 na1 ca1), (.int .u64 i1229)] h1228 fun r1230 h1231 =>
    (∃ i1232 : Int, r1230 = (.int .u64 i1232) ∧
    (∃ i1233 : Int, ld1 h1231 h1219.next 1 = some (.int .u64 i1233) ∧
    (((i1232 : Int) < i1233 → (ld1 h1228 h1219.next 1 = some (.int .u64 i1233)) ∧
    ((ld1 h1231 h1219.next 1 = some (.int .u64 i1233)) ∧
    (Q (.bool false) h1231))) ∧
    (¬ (i1232 : Int) < i1233 → (ld1 h1228 h1219.next 1 = some (.int .u64 i1233)) ∧
    ((ld1 h1231 h1219.next 1 = some (.int .u64 i1233)) ∧
    (∀ i1234 : Int, i1234 = IntKind.wrap .i64 (i1221 + 1) → ∃ j1220, j1220 < k1218 ∧ I1217 i1234 j1220 h1231)))))))))))) ∧
    (¬ (i1221 : Int) < ((n1215 : Nat) : Int) → ∃ I1235 : Int → Nat → AH → Prop, (∃ n, I1235 0 n h1219) ∧
    ∀ (k1236 : Nat) (h1237 : AH) (i1239 : Int), I1235 i1239 k1236 h1237 →
    ((i1239 : Int) < ((na1 : Nat) : Int) → derefP pa1 fun b1240 o1241 => (((0 : Int) ≤ i1239) ∧ ((i1239 : Int) < ((na1 : Nat) : Int)) ∧
    (∃ i1242 : Int, ∃ s1243 : ByteArray, ∃ b1244 : Bool, ∃ i1245 : Int, ∃ i1246 : Int, ∃ i1247 : Int, ∃ i1248 : Int, ∃ i1249 : Int, ∃ i1250 : Int, ∃ i1251 : Int, ∃ (p1252 : Option Addr) (n1253 c1254 : Nat), ldN h1237 b1240 (o1241 + Int.toNat i1239 * 11) 11 = some ([(.int .u64 i1242), (.string s1243), (.bool b1244), (.int .u64 i1245), (.int .u64 i1246), (.int .u64 i1247), (.int .i64 i1248), (.int .i64 i1249), (.int .u64 i1250), (.int .u32 i1251), (.slice p1252 n1253 c1254)] : List Value) ∧
    (∀ h1255 : AH, h1255 = h1237.alloc (.cells ([(.int .u64 0), (.string (ByteArray.mk #[])), (.bool false), (.int .u64 0), (.int .u64 0), (.int .u64 0), (.int .i64 0), (.int .i64 0), (.int .u64 0), (.int .u32 0), (.slice none 0 0)] : List Value) 28 false) →
    (List.length ([(.int .u64 i1242), (.string s1243), (.bool b1244), (.int .u64 i1245), (.int .u64 i1246), (.int .u64 i1247), (.int .i64 i1248), (.int .i64 i1249), (.int .u64 i1250), (.int .u32 i1251), (.slice p1252 n1253 c1254)] : List Value) = 11) ∧ ∃ h1256 : AH, stN h1255 h1237.next 0 ([(.int .u64 i1242), (.string s1243), (.bool b1244), (.int .u64 i1245), (.int .u64 i1246), (.int .u64 i1247), (.int .i64 i1248), (.int .i64 i1249), (.int .u64 i1250), (.int .u32 i1251), (.slice p1252 n1253 c1254)] : List Value) = some h1256 ∧
    (((i1239 : Int) = i4 → ∀ i1257 : Int, i1257 = IntKind.wrap .i64 (i1239 + 1) → ∃ j1238, j1238 < k1236 ∧ I1235 i1257 j1238 h1256) ∧
    (¬ (i1239 : Int) = i4 → ((ld1 h1256 h1237.next 2 = some (.bool true) ∧
    (((ld1 h1256 h2.next 2 = some (.bool true) ∧
    (∃ s1258 : ByteArray, ld1 h1256 h1237.next 1 = some (.string s1258) ∧
    (∃ s1259 : ByteArray, ld1 h1256 h2.next 1 = some (.string s1259) ∧
    ((s1258 = s1259 → ((ld1 h1256 h2.next 2 = some (.bool true) ∧
    (∃ i1260 : Int, ld1 h1256 h1237.next 3 = some (.int .u64 i1260) ∧
    (∃ i1261 : Int, ld1 h1256 h2.next 3 = some (.int .u64 i1261) ∧
    (((i1260 : Int) = i1261 → Q (.bool false) h1256) ∧
    (¬ (i1260 : Int) = i1261 → ∀ i1262 : Int, i1262 = IntKind.wrap .i64 (i1239 + 1) → ∃ j1238, j1238 < k1236 ∧ I1235 i1262 j1238 h1256))))) ∨ (ld1 h1256 h2.next 2 = some (.bool false) ∧
    (Q (.bool false) h1256)))) ∧
    (¬ s1258 = s1259 → ∀ i1263 : Int, i1263 = IntKind.wrap .i64 (i1239 + 1) → ∃ j1238, j1238 < k1236 ∧ I1235 i1263 j1238 h1256))))) ∨ (ld1 h1256 h2.next 2 = some (.bool false) ∧
    (∀ i1264 : Int, i1264 = IntKind.wrap .i64 (i1239 + 1) → ∃ j1238, j1238 < k1236 ∧ I1235 i1264 j1238 h1256))))) ∨ (ld1 h1256 h1237.next 2 = some (.bool false) ∧
    (((ld1 h1256 h2.next 2 = some (.bool true) ∧
    (∀ i1265 : Int, i1265 = IntKind.wrap .i64 (i1239 + 1) → ∃ j1238, j1238 < k1236 ∧ I1235 i1265 j1238 h1256)) ∨ (ld1 h1256 h2.next 2 = some (.bool false) ∧
    (∃ s1266 : ByteArray, ld1 h1256 h1237.next 1 = some (.string s1266) ∧
    (∃ s1267 : ByteArray, ld1 h1256 h2.next 1 = some (.string s1267) ∧
    ((s1266 = s1267 → ((ld1 h1256 h2.next 2 = some (.bool true) ∧
    (∃ i1268 : Int, ld1 h1256 h1237.next 3 = some (.int .u64 i1268) ∧
    (∃ i1269 : Int, ld1 h1256 h2.next 3 = some (.int .u64 i1269) ∧
    (((i1268 : Int) = i1269 → Q (.bool false) h1256) ∧
    (¬ (i1268 : Int) = i1269 → ∀ i1270 : Int, i1270 = IntKind.wrap .i64 (i1239 + 1) → ∃ j1238, j1238 < k1236 ∧ I1235 i1270 j1238 h1256))))) ∨ (ld1 h1256 h2.next 2 = some (.bool false) ∧
    (Q (.bool false) h1256)))) ∧
    (¬ s1266 = s1267 → ∀ i1271 : Int, i1271 = IntKind.wrap .i64 (i1239 + 1) → ∃ j1238, j1238 < k1236 ∧ I1235 i1271 j1238 h1256))))))))))))))) ∧
    (¬ (i1239 : Int) < ((na1 : Nat) : Int) → ∀ i1272 : Int, i1272 = IntKind.wrap .i64 (i4 + 1) → ∃ j3, j3 < k1 ∧ I0 i1272 j3 h1237)))))))))))))) ∨ (ld1 h759 h744.next 2 = some (.bool false) ∧
    (Q (.bool false) h759)))))))) ∨ (r743 = (.tuple #[(.agg #[(.int .u64 i745), (.string s746), (.bool b747), (.int .u64 i748), (.int .u64 i749), (.int .u64 i750), (.int .i64 i751), (.int .i64 i752), (.int .u64 i753), (.int .u32 i754), (.slice p755 n756 c757)]), (.bool false)]) ∧
    (∀ h1273 : AH, h1273 = h744.alloc (.cells ([(.int .u64 0), (.string (ByteArray.mk #[])), (.bool false), (.int .u64 0), (.int .u64 0), (.int .u64 0), (.int .i64 0), (.int .i64 0), (.int .u64 0), (.int .u32 0), (.slice none 0 0)] : List Value) 28 false) →
    (List.length ([(.int .u64 i745), (.string s746), (.bool b747), (.int .u64 i748), (.int .u64 i749), (.int .u64 i750), (.int .i64 i751), (.int .i64 i752), (.int .u64 i753), (.int .u32 i754), (.slice p755 n756 c757)] : List Value) = 11) ∧ ∃ h1274 : AH, stN h1273 h744.next 0 ([(.int .u64 i745), (.string s746), (.bool b747), (.int .u64 i748), (.int .u64 i749), (.int .u64 i750), (.int .i64 i751), (.int .i64 i752), (.int .u64 i753), (.int .u32 i754), (.slice p755 n756 c757)] : List Value) = some h1274 ∧
    (∃ i1275 : Int, ld1 h1274 h2.next 4 = some (.int .u64 i1275) ∧
    (((i1275 : Int) = 0 → ∃ i1276 : Int, ld1 h1274 h2.next 0 = some (.int .u64 i1276) ∧
    (Wf Try.prog K 29 [(.slice pa1 na1 ca1), (.int .u64 i1276)] h1274 fun r1277 h1278 =>
    (∃ (p1279 : Option Addr) (n1280 c1281 : Nat), ∃ (p1282 : Option Addr) (n1283 c1284 : Nat), r1277 = (.tuple #[(.slice p1279 n1280 c1281), (.slice p1282 n1283 c1284)]) ∧
    (((ld1 h1278 h2.next 2 = some (.bool true) ∧
    (((((n1280 : Nat) : Int) : Int) = 1 → ∃ (p1285 : Option Addr) (n1286 c1287 : Nat), ld1 h1278 h2.next 10 = some (.slice p1285 n1286 c1287) ∧
    (∃ I1288 : Int → Nat → AH → Prop, (∃ n, I1288 0 n h1278) ∧
    ∀ (k1289 : Nat) (h1290 : AH) (i1292 : Int), I1288 i1292 k1289 h1290 →
    ((i1292 : Int) < ((n1286 : Nat) : Int) → derefP p1285 fun b1293 o1294 => (((0 : Int) ≤ i1292) ∧ ((i1292 : Int) < ((n1286 : Nat) : Int)) ∧
    (∃ i1295 : Int, ∃ i1296 : Int, ∃ i1297 : Int, ldN h1290 b1293 (o1294 + Int.toNat i1292 * 3) 3 = some ([(.int .i64 i1295), (.int .u64 i1296), (.int .u32 i1297)] : List Value) ∧
    (∀ h1298 : AH, h1298 = h1290.alloc (.cells ([(.int .i64 0), (.int .u64 0), (.int .u32 0)] : List Value) 25 false) →
    (List.length ([(.int .i64 i1295), (.int .u64 i1296), (.int .u32 i1297)] : List Value) = 3) ∧ ∃ h1299 : AH, stN h1298 h1290.next 0 ([(.int .i64 i1295), (.int .u64 i1296), (.int .u32 i1297)] : List Value) = some h1299 ∧
    (∃ i1300 : Int, ld1 h1299 h2.next 0 = some (.int .u64 i1300) ∧
    (Wf Try.prog K 33 [(.slice pa1 na1 ca1), (.int .u64 i1300)] h1299 fun r1301 h1302 =>
    (∃ i1303 : Int, r1301 = (.int .u64 i1303) ∧
    (∃ i1304 : Int, ld1 h1302 h1290.next 1 = some (.int .u64 i1304) ∧
    (((i1303 : Int) < i1304 → (ld1 h1299 h1290.next 1 = some (.int .u64 i1304)) ∧
    ((ld1 h1302 h1290.next 1 = some (.int .u64 i1304)) ∧
    (Q (.bool false) h1302))) ∧
    (¬ (i1303 : Int) < i1304 → (ld1 h1299 h1290.next 1 = some (.int .u64 i1304)) ∧
    ((ld1 h1302 h1290.next 1 = some (.int .u64 i1304)) ∧
    (∀ i1305 : Int, i1305 = IntKind.wrap .i64 (i1292 + 1) → ∃ j1291, j1291 < k1289 ∧ I1288 i1305 j1291 h1302)))))))))))) ∧
    (¬ (i1292 : Int) < ((n1286 : Nat) : Int) → ∃ I1306 : Int → Nat → AH → Prop, (∃ n, I1306 0 n h1290) ∧
    ∀ (k1307 : Nat) (h1308 : AH) (i1310 : Int), I1306 i1310 k1307 h1308 →
    ((i1310 : Int) < ((na1 : Nat) : Int) → derefP pa1 fun b1311 o1312 => (((0 : Int) ≤ i1310) ∧ ((i1310 : Int) < ((na1 : Nat) : Int)) ∧
    (∃ i1313 : Int, ∃ s1314 : ByteArray, ∃ b1315 : Bool, ∃ i1316 : Int, ∃ i1317 : Int, ∃ i1318 : Int, ∃ i1319 : Int, ∃ i1320 : Int, ∃ i1321 : Int, ∃ i1322 : Int, ∃ (p1323 : Option Addr) (n1324 c1325 : Nat), ldN h1308 b1311 (o1312 + Int.toNat i1310 * 11) 11 = some ([(.int .u64 i1313), (.string s1314), (.bool b1315), (.int .u64 i1316), (.int .u64 i1317), (.int .u64 i1318), (.int .i64 i1319), (.int .i64 i1320), (.int .u64 i1321), (.int .u32 i1322), (.slice p1323 n1324 c1325)] : List Value) ∧
    (∀ h1326 : AH, h1326 = h1308.alloc (.cells ([(.int .u64 0), (.string (ByteArray.mk #[])), (.bool false), (.int .u64 0), (.int .u64 0), (.int .u64 0), (.int .i64 0), (.int .i64 0), (.int .u64 0), (.int .u32 0), (.slice none 0 0)] : List Value) 28 false) →
    (List.length ([(.int .u64 i1313), (.string s1314), (.bool b1315), (.int .u64 i1316), (.int .u64 i1317), (.int .u64 i1318), (.int .i64 i1319), (.int .i64 i1320), (.int .u64 i1321), (.int .u32 i1322), (.slice p1323 n1324 c1325)] : List Value) = 11) ∧ ∃ h1327 : AH, stN h1326 h1308.next 0 ([(.int .u64 i1313), (.string s1314), (.bool b1315), (.int .u64 i1316), (.int .u64 i1317), (.int .u64 i1318), (.int .i64 i1319), (.int .i64 i1320), (.int .u64 i1321), (.int .u32 i1322), (.slice p1323 n1324 c1325)] : List Value) = some h1327 ∧
    (((i1310 : Int) = i4 → ∀ i1328 : Int, i1328 = IntKind.wrap .i64 (i1310 + 1) → ∃ j1309, j1309 < k1307 ∧ I1306 i1328 j1309 h1327) ∧
    (¬ (i1310 : Int) = i4 → ((ld1 h1327 h1308.next 2 = some (.bool true) ∧
    (((ld1 h1327 h2.next 2 = some (.bool true) ∧
    (∃ s1329 : ByteArray, ld1 h1327 h1308.next 1 = some (.string s1329) ∧
    (∃ s1330 : ByteArray, ld1 h1327 h2.next 1 = some (.string s1330) ∧
    ((s1329 = s1330 → ((ld1 h1327 h2.next 2 = some (.bool true) ∧
    (∃ i1331 : Int, ld1 h1327 h1308.next 3 = some (.int .u64 i1331) ∧
    (∃ i1332 : Int, ld1 h1327 h2.next 3 = some (.int .u64 i1332) ∧
    (((i1331 : Int) = i1332 → Q (.bool false) h1327) ∧
    (¬ (i1331 : Int) = i1332 → ∀ i1333 : Int, i1333 = IntKind.wrap .i64 (i1310 + 1) → ∃ j1309, j1309 < k1307 ∧ I1306 i1333 j1309 h1327))))) ∨ (ld1 h1327 h2.next 2 = some (.bool false) ∧
    (Q (.bool false) h1327)))) ∧
    (¬ s1329 = s1330 → ∀ i1334 : Int, i1334 = IntKind.wrap .i64 (i1310 + 1) → ∃ j1309, j1309 < k1307 ∧ I1306 i1334 j1309 h1327))))) ∨ (ld1 h1327 h2.next 2 = some (.bool false) ∧
    (∀ i1335 : Int, i1335 = IntKind.wrap .i64 (i1310 + 1) → ∃ j1309, j1309 < k1307 ∧ I1306 i1335 j1309 h1327))))) ∨ (ld1 h1327 h1308.next 2 = some (.bool false) ∧
    (((ld1 h1327 h2.next 2 = some (.bool true) ∧
    (∀ i1336 : Int, i1336 = IntKind.wrap .i64 (i1310 + 1) → ∃ j1309, j1309 < k1307 ∧ I1306 i1336 j1309 h1327)) ∨ (ld1 h1327 h2.next 2 = some (.bool false) ∧
    (∃ s1337 : ByteArray, ld1 h1327 h1308.next 1 = some (.string s1337) ∧
    (∃ s1338 : ByteArray, ld1 h1327 h2.next 1 = some (.string s1338) ∧
    ((s1337 = s1338 → ((ld1 h1327 h2.next 2 = some (.bool true) ∧
    (∃ i1339 : Int, ld1 h1327 h1308.next 3 = some (.int .u64 i1339) ∧
    (∃ i1340 : Int, ld1 h1327 h2.next 3 = some (.int .u64 i1340) ∧
    (((i1339 : Int) = i1340 → Q (.bool false) h1327) ∧
    (¬ (i1339 : Int) = i1340 → ∀ i1341 : Int, i1341 = IntKind.wrap .i64 (i1310 + 1) → ∃ j1309, j1309 < k1307 ∧ I1306 i1341 j1309 h1327))))) ∨ (ld1 h1327 h2.next 2 = some (.bool false) ∧
    (Q (.bool false) h1327)))) ∧
    (¬ s1337 = s1338 → ∀ i1342 : Int, i1342 = IntKind.wrap .i64 (i1310 + 1) → ∃ j1309, j1309 < k1307 ∧ I1306 i1342 j1309 h1327))))))))))))))) ∧
    (¬ (i1310 : Int) < ((na1 : Nat) : Int) → ∀ i1343 : Int, i1343 = IntKind.wrap .i64 (i4 + 1) → ∃ j3, j3 < k1 ∧ I0 i1343 j3 h1308)))) ∧
    (¬ (((n1280 : Nat) : Int) : Int) = 1 → Q (.bool false) h1278))) ∨ (ld1 h1278 h2.next 2 = some (.bool false) ∧
    (∃ (p1344 : Option Addr) (n1345 c1346 : Nat), ld1 h1278 h2.next 10 = some (.slice p1344 n1345 c1346) ∧
    (∃ I1347 : Int → Nat → AH → Prop, (∃ n, I1347 0 n h1278) ∧
    ∀ (k1348 : Nat) (h1349 : AH) (i1351 : Int), I1347 i1351 k1348 h1349 →
    ((i1351 : Int) < ((n1345 : Nat) : Int) → derefP p1344 fun b1352 o1353 => (((0 : Int) ≤ i1351) ∧ ((i1351 : Int) < ((n1345 : Nat) : Int)) ∧
    (∃ i1354 : Int, ∃ i1355 : Int, ∃ i1356 : Int, ldN h1349 b1352 (o1353 + Int.toNat i1351 * 3) 3 = some ([(.int .i64 i1354), (.int .u64 i1355), (.int .u32 i1356)] : List Value) ∧
    (∀ h1357 : AH, h1357 = h1349.alloc (.cells ([(.int .i64 0), (.int .u64 0), (.int .u32 0)] : List Value) 25 false) →
    (List.length ([(.int .i64 i1354), (.int .u64 i1355), (.int .u32 i1356)] : List Value) = 3) ∧ ∃ h1358 : AH, stN h1357 h1349.next 0 ([(.int .i64 i1354), (.int .u64 i1355), (.int .u32 i1356)] : List Value) = some h1358 ∧
    (∃ i1359 : Int, ld1 h1358 h2.next 0 = some (.int .u64 i1359) ∧
    (Wf Try.prog K 33 [(.slice pa1 na1 ca1), (.int .u64 i1359)] h1358 fun r1360 h1361 =>
    (∃ i1362 : Int, r1360 = (.int .u64 i1362) ∧
    (∃ i1363 : Int, ld1 h1361 h1349.next 1 = some (.int .u64 i1363) ∧
    (((i1362 : Int) < i1363 → (ld1 h1358 h1349.next 1 = some (.int .u64 i1363)) ∧
    ((ld1 h1361 h1349.next 1 = some (.int .u64 i1363)) ∧
    (Q (.bool false) h1361))) ∧
    (¬ (i1362 : Int) < i1363 → (ld1 h1358 h1349.next 1 = some (.int .u64 i1363)) ∧
    ((ld1 h1361 h1349.next 1 = some (.int .u64 i1363)) ∧
    (∀ i1364 : Int, i1364 = IntKind.wrap .i64 (i1351 + 1) → ∃ j1350, j1350 < k1348 ∧ I1347 i1364 j1350 h1361)))))))))))) ∧
    (¬ (i1351 : Int) < ((n1345 : Nat) : Int) → ∃ I1365 : Int → Nat → AH → Prop, (∃ n, I1365 0 n h1349) ∧
    ∀ (k1366 : Nat) (h1367 : AH) (i1369 : Int), I1365 i1369 k1366 h1367 →
    ((i1369 : Int) < ((na1 : Nat) : Int) → derefP pa1 fun b1370 o1371 => (((0 : Int) ≤ i1369) ∧ ((i1369 : Int) < ((na1 : Nat) : Int)) ∧
    (∃ i1372 : Int, ∃ s1373 : ByteArray, ∃ b1374 : Bool, ∃ i1375 : Int, ∃ i1376 : Int, ∃ i1377 : Int, ∃ i1378 : Int, ∃ i1379 : Int, ∃ i1380 : Int, ∃ i1381 : Int, ∃ (p1382 : Option Addr) (n1383 c1384 : Nat), ldN h1367 b1370 (o1371 + Int.toNat i1369 * 11) 11 = some ([(.int .u64 i1372), (.string s1373), (.bool b1374), (.int .u64 i1375), (.int .u64 i1376), (.int .u64 i1377), (.int .i64 i1378), (.int .i64 i1379), (.int .u64 i1380), (.int .u32 i1381), (.slice p1382 n1383 c1384)] : List Value) ∧
    (∀ h1385 : AH, h1385 = h1367.alloc (.cells ([(.int .u64 0), (.string (ByteArray.mk #[])), (.bool false), (.int .u64 0), (.int .u64 0), (.int .u64 0), (.int .i64 0), (.int .i64 0), (.int .u64 0), (.int .u32 0), (.slice none 0 0)] : List Value) 28 false) →
    (List.length ([(.int .u64 i1372), (.string s1373), (.bool b1374), (.int .u64 i1375), (.int .u64 i1376), (.int .u64 i1377), (.int .i64 i1378), (.int .i64 i1379), (.int .u64 i1380), (.int .u32 i1381), (.slice p1382 n1383 c1384)] : List Value) = 11) ∧ ∃ h1386 : AH, stN h1385 h1367.next 0 ([(.int .u64 i1372), (.string s1373), (.bool b1374), (.int .u64 i1375), (.int .u64 i1376), (.int .u64 i1377), (.int .i64 i1378), (.int .i64 i1379), (.int .u64 i1380), (.int .u32 i1381), (.slice p1382 n1383 c1384)] : List Value) = some h1386 ∧
    (((i1369 : Int) = i4 → ∀ i1387 : Int, i1387 = IntKind.wrap .i64 (i1369 + 1) → ∃ j1368, j1368 < k1366 ∧ I1365 i1387 j1368 h1386) ∧
    (¬ (i1369 : Int) = i4 → ((ld1 h1386 h1367.next 2 = some (.bool true) ∧
    (((ld1 h1386 h2.next 2 = some (.bool true) ∧
    (∃ s1388 : ByteArray, ld1 h1386 h1367.next 1 = some (.string s1388) ∧
    (∃ s1389 : ByteArray, ld1 h1386 h2.next 1 = some (.string s1389) ∧
    ((s1388 = s1389 → ((ld1 h1386 h2.next 2 = some (.bool true) ∧
    (∃ i1390 : Int, ld1 h1386 h1367.next 3 = some (.int .u64 i1390) ∧
    (∃ i1391 : Int, ld1 h1386 h2.next 3 = some (.int .u64 i1391) ∧
    (((i1390 : Int) = i1391 → Q (.bool false) h1386) ∧
    (¬ (i1390 : Int) = i1391 → ∀ i1392 : Int, i1392 = IntKind.wrap .i64 (i1369 + 1) → ∃ j1368, j1368 < k1366 ∧ I1365 i1392 j1368 h1386))))) ∨ (ld1 h1386 h2.next 2 = some (.bool false) ∧
    (Q (.bool false) h1386)))) ∧
    (¬ s1388 = s1389 → ∀ i1393 : Int, i1393 = IntKind.wrap .i64 (i1369 + 1) → ∃ j1368, j1368 < k1366 ∧ I1365 i1393 j1368 h1386))))) ∨ (ld1 h1386 h2.next 2 = some (.bool false) ∧
    (∀ i1394 : Int, i1394 = IntKind.wrap .i64 (i1369 + 1) → ∃ j1368, j1368 < k1366 ∧ I1365 i1394 j1368 h1386))))) ∨ (ld1 h1386 h1367.next 2 = some (.bool false) ∧
    (((ld1 h1386 h2.next 2 = some (.bool true) ∧
    (∀ i1395 : Int, i1395 = IntKind.wrap .i64 (i1369 + 1) → ∃ j1368, j1368 < k1366 ∧ I1365 i1395 j1368 h1386)) ∨ (ld1 h1386 h2.next 2 = some (.bool false) ∧
    (∃ s1396 : ByteArray, ld1 h1386 h1367.next 1 = some (.string s1396) ∧
    (∃ s1397 : ByteArray, ld1 h1386 h2.next 1 = some (.string s1397) ∧
    ((s1396 = s1397 → ((ld1 h1386 h2.next 2 = some (.bool true) ∧
    (∃ i1398 : Int, ld1 h1386 h1367.next 3 = some (.int .u64 i1398) ∧
    (∃ i1399 : Int, ld1 h1386 h2.next 3 = some (.int .u64 i1399) ∧
    (((i1398 : Int) = i1399 → Q (.bool false) h1386) ∧
    (¬ (i1398 : Int) = i1399 → ∀ i1400 : Int, i1400 = IntKind.wrap .i64 (i1369 + 1) → ∃ j1368, j1368 < k1366 ∧ I1365 i1400 j1368 h1386))))) ∨ (ld1 h1386 h2.next 2 = some (.bool false) ∧
    (Q (.bool false) h1386)))) ∧
    (¬ s1396 = s1397 → ∀ i1401 : Int, i1401 = IntKind.wrap .i64 (i1369 + 1) → ∃ j1368, j1368 < k1366 ∧ I1365 i1401 j1368 h1386))))))))))))))) ∧
    (¬ (i1369 : Int) < ((na1 : Nat) : Int) → ∀ i1402 : Int, i1402 = IntKind.wrap .i64 (i4 + 1) → ∃ j3, j3 < k1 ∧ I0 i1402 j3 h1367)))))))))) ∧
    (¬ (i1275 : Int) = 0 → Q (.bool false) h1274)))))))))))))) ∨ (r725 = (.tuple #[(.agg #[(.int .u64 i727), (.string s728), (.bool b729), (.int .u64 i730), (.int .u64 i731), (.int .u64 i732), (.int .i64 i733), (.int .i64 i734), (.int .u64 i735), (.int .u32 i736), (.slice p737 n738 c739)]), (.bool false)]) ∧
    (∀ h1403 : AH, h1403 = h726.alloc (.cells ([(.int .u64 0), (.string (ByteArray.mk #[])), (.bool false), (.int .u64 0), (.int .u64 0), (.int .u64 0), (.int .i64 0), (.int .i64 0), (.int .u64 0), (.int .u32 0), (.slice none 0 0)] : List Value) 28 false) →
    (List.length ([(.int .u64 i727), (.string s728), (.bool b729), (.int .u64 i730), (.int .u64 i731), (.int .u64 i732), (.int .i64 i733), (.int .i64 i734), (.int .u64 i735), (.int .u32 i736), (.slice p737 n738 c739)] : List Value) = 11) ∧ ∃ h1404 : AH, stN h1403 h726.next 0 ([(.int .u64 i727), (.string s728), (.bool b729), (.int .u64 i730), (.int .u64 i731), (.int .u64 i732), (.int .i64 i733), (.int .i64 i734), (.int .u64 i735), (.int .u32 i736), (.slice p737 n738 c739)] : List Value) = some h1404 ∧
    (Q (.bool false) h1404))))))))))) ∨ (r35 = (.bool false) ∧
    (Q (.bool false) h36)))))))))) ∧
    (¬ (i4 : Int) < ((na1 : Nat) : Int) → Q (.bool true) h2)))) :
    Wf Try.prog K 23 [(.int .u64 ia0), (.slice pa1 na1 ca1)] h Q :=
  vcF_sound (hs := [(4, [(26, .int .i64 0)]), (18, [(118, .int .i64 0)]), (24, [(132, .int .i64 0)])]) hk (Eq.mpr (by kernel_rfl) H)
theorem vc_aquiferref15_Copy {K : Xs} (hk : K 24 = none) (pa0 : Option Addr) (na0 ca0 : Nat) (h : AH) (Q : Value → AH → Prop) (H :
    ∀ h0 : AH, h0 = h.alloc (.cells ([] : List Value) 28 false) →
    ∃ I1 : Option Addr → Nat → Nat → Int → Nat → AH → Prop, (∃ n, I1 (some ⟨h.next, 0, none⟩) 0 0 0 n h0) ∧
    ∀ (k2 : Nat) (h3 : AH) (p5 : Option Addr) (n6 : Nat) (c7 : Nat) (i8 : Int), I1 p5 n6 c7 i8 k2 h3 →
    ((i8 : Int) < ((na0 : Nat) : Int) → derefP pa0 fun b9 o10 => (((0 : Int) ≤ i8) ∧ ((i8 : Int) < ((na0 : Nat) : Int)) ∧
    (∃ i11 : Int, ∃ s12 : ByteArray, ∃ b13 : Bool, ∃ i14 : Int, ∃ i15 : Int, ∃ i16 : Int, ∃ i17 : Int, ∃ i18 : Int, ∃ i19 : Int, ∃ i20 : Int, ∃ (p21 : Option Addr) (n22 c23 : Nat), ldN h3 b9 (o10 + Int.toNat i8 * 11) 11 = some ([(.int .u64 i11), (.string s12), (.bool b13), (.int .u64 i14), (.int .u64 i15), (.int .u64 i16), (.int .i64 i17), (.int .i64 i18), (.int .u64 i19), (.int .u32 i20), (.slice p21 n22 c23)] : List Value) ∧
    (∀ h24 : AH, h24 = h3.alloc (.cells ([(.int .u64 0), (.string (ByteArray.mk #[])), (.bool false), (.int .u64 0), (.int .u64 0), (.int .u64 0), (.int .i64 0), (.int .i64 0), (.int .u64 0), (.int .u32 0), (.slice none 0 0)] : List Value) 28 false) →
    (List.length ([(.int .u64 i11), (.string s12), (.bool b13), (.int .u64 i14), (.int .u64 i15), (.int .u64 i16), (.int .i64 i17), (.int .i64 i18), (.int .u64 i19), (.int .u32 i20), (.slice p21 n22 c23)] : List Value) = 11) ∧ ∃ h25 : AH, stN h24 h3.next 0 ([(.int .u64 i11), (.string s12), (.bool b13), (.int .u64 i14), (.int .u64 i15), (.int .u64 i16), (.int .i64 i17), (.int .i64 i18), (.int .u64 i19), (.int .u32 i20), (.slice p21 n22 c23)] : List Value) = some h25 ∧
    (∀ h26 : AH, h26 = h25.alloc (.cells ([] : List Value) 25 false) →
    ∃ (p27 : Option Addr) (n28 c29 : Nat), ld1 h26 h3.next 10 = some (.slice p27 n28 c29) ∧
    (∃ (p30 : Option Addr) (n31 c32 : Nat) (h33 : AH), aBuiltin Try.prog h26 .append #[26, 26] [(.slice (some ⟨h25.next, 0, none⟩) 0 0), (.slice p27 n28 c29)] = some (.slice p30 n31 c32, h33) ∧
    (∃ h34 : AH, st1 h33 h3.next 10 (.slice p30 n31 c32) = some h34 ∧
    (∃ i35 : Int, ∃ s36 : ByteArray, ∃ b37 : Bool, ∃ i38 : Int, ∃ i39 : Int, ∃ i40 : Int, ∃ i41 : Int, ∃ i42 : Int, ∃ i43 : Int, ∃ i44 : Int, ∃ (p45 : Option Addr) (n46 c47 : Nat), ldN h34 h3.next 0 11 = some ([(.int .u64 i35), (.string s36), (.bool b37), (.int .u64 i38), (.int .u64 i39), (.int .u64 i40), (.int .i64 i41), (.int .i64 i42), (.int .u64 i43), (.int .u32 i44), (.slice p45 n46 c47)] : List Value) ∧
    (∀ h48 : AH, h48 = h34.alloc (.cells ([(.int .u64 i35), (.string s36), (.bool b37), (.int .u64 i38), (.int .u64 i39), (.int .u64 i40), (.int .i64 i41), (.int .i64 i42), (.int .u64 i43), (.int .u32 i44), (.slice p45 n46 c47)] : List Value) 28 false) →
    ∃ (p49 : Option Addr) (n50 c51 : Nat) (h52 : AH), aBuiltin Try.prog h48 .append #[34, 34] [(.slice p5 n6 c7), (.slice (some ⟨h34.next, 0, none⟩) 1 1)] = some (.slice p49 n50 c51, h52) ∧
    (∀ i53 : Int, i53 = IntKind.wrap .i64 (i8 + 1) → ∃ j4, j4 < k2 ∧ I1 p49 n50 c51 i53 j4 h52)))))))))) ∧
    (¬ (i8 : Int) < ((na0 : Nat) : Int) → Q (.slice p5 n6 c7) h3)) :
    Wf Try.prog K 24 [(.slice pa0 na0 ca0)] h Q :=
  vcF_sound (hs := [(3, [(3, .slice none 0 0), (9, .int .i64 0)])]) hk (Eq.mpr (by kernel_rfl) H)
theorem vc_aquiferref15_Same {K : Xs} (hk : K 27 = none) (ia0_0 : Int) (sa0_1 : ByteArray) (ba0_2 : Bool) (ia0_3 : Int) (ia0_4 : Int) (ia0_5 : Int) (ia0_6 : Int) (ia0_7 : Int) (ia0_8 : Int) (ia0_9 : Int) (pa0_10 : Option Addr) (na0_10 ca0_10 : Nat) (ia1_0 : Int) (sa1_1 : ByteArray) (ba1_2 : Bool) (ia1_3 : Int) (ia1_4 : Int) (ia1_5 : Int) (ia1_6 : Int) (ia1_7 : Int) (ia1_8 : Int) (ia1_9 : Int) (pa1_10 : Option Addr) (na1_10 ca1_10 : Nat) (h : AH) (Q : Value → AH → Prop) (H :
    ∀ h0 : AH, h0 = h.alloc (.cells ([(.int .u64 ia0_0), (.string sa0_1), (.bool ba0_2), (.int .u64 ia0_3), (.int .u64 ia0_4), (.int .u64 ia0_5), (.int .i64 ia0_6), (.int .i64 ia0_7), (.int .u64 ia0_8), (.int .u32 ia0_9), (.slice pa0_10 na0_10 ca0_10)] : List Value) 28 false) →
    ∀ h1 : AH, h1 = h0.alloc (.cells ([(.int .u64 ia1_0), (.string sa1_1), (.bool ba1_2), (.int .u64 ia1_3), (.int .u64 ia1_4), (.int .u64 ia1_5), (.int .i64 ia1_6), (.int .i64 ia1_7), (.int .u64 ia1_8), (.int .u32 ia1_9), (.slice pa1_10 na1_10 ca1_10)] : List Value) 28 false) →
    ∃ i2 : Int, ld1 h1 h.next 0 = some (.int .u64 i2) ∧
    (∃ i3 : Int, ld1 h1 h0.next 0 = some (.int .u64 i3) ∧
    (((i2 : Int) = i3 → ∃ s4 : ByteArray, ld1 h1 h.next 1 = some (.string s4) ∧
    (∃ s5 : ByteArray, ld1 h1 h0.next 1 = some (.string s5) ∧
    ((s4 = s5 → ((ld1 h1 h.next 2 = some (.bool true) ∧
    (((ld1 h1 h0.next 2 = some (.bool true) ∧
    (∃ i6 : Int, ld1 h1 h.next 3 = some (.int .u64 i6) ∧
    (∃ i7 : Int, ld1 h1 h0.next 3 = some (.int .u64 i7) ∧
    (((i6 : Int) = i7 → ∃ i8 : Int, ld1 h1 h.next 4 = some (.int .u64 i8) ∧
    (∃ i9 : Int, ld1 h1 h0.next 4 = some (.int .u64 i9) ∧
    (((i8 : Int) = i9 → ∃ i10 : Int, ld1 h1 h.next 5 = some (.int .u64 i10) ∧
    (∃ i11 : Int, ld1 h1 h0.next 5 = some (.int .u64 i11) ∧
    (((i10 : Int) = i11 → ∃ i12 : Int, ld1 h1 h.next 6 = some (.int .i64 i12) ∧
    (∃ i13 : Int, ld1 h1 h0.next 6 = some (.int .i64 i13) ∧
    (((i12 : Int) = i13 → ∃ i14 : Int, ∃ i15 : Int, ∃ i16 : Int, ldN h1 h.next 7 3 = some ([(.int .i64 i14), (.int .u64 i15), (.int .u32 i16)] : List Value) ∧
    (∃ i17 : Int, ∃ i18 : Int, ∃ i19 : Int, ldN h1 h0.next 7 3 = some ([(.int .i64 i17), (.int .u64 i18), (.int .u32 i19)] : List Value) ∧
    (∃ la20 lb21, keyA Try.prog 25 (.agg #[(.int .i64 i14), (.int .u64 i15), (.int .u32 i16)]) = some la20 ∧ keyA Try.prog 25 (.agg #[(.int .i64 i17), (.int .u64 i18), (.int .u32 i19)]) = some lb21 ∧
    (litsEq la20 lb21 = true → ∃ (p22 : Option Addr) (n23 c24 : Nat), ld1 h1 h.next 10 = some (.slice p22 n23 c24) ∧
    (∃ (p25 : Option Addr) (n26 c27 : Nat), ld1 h1 h0.next 10 = some (.slice p25 n26 c27) ∧
    (Wf Try.prog K 39 [(.slice p22 n23 c24), (.slice p25 n26 c27)] h1 fun r28 h29 =>
    (((r28 = (.bool true) ∧
    (Q (.bool true) h29)) ∨ (r28 = (.bool false) ∧
    (Q (.bool false) h29))))))) ∧
    (litsEq la20 lb21 = false → Q (.bool false) h1)))) ∧
    (¬ (i12 : Int) = i13 → Q (.bool false) h1)))) ∧
    (¬ (i10 : Int) = i11 → Q (.bool false) h1)))) ∧
    (¬ (i8 : Int) = i9 → Q (.bool false) h1)))) ∧
    (¬ (i6 : Int) = i7 → Q (.bool false) h1))))) ∨ (ld1 h1 h0.next 2 = some (.bool false) ∧
    (Q (.bool false) h1))))) ∨ (ld1 h1 h.next 2 = some (.bool false) ∧
    (((ld1 h1 h0.next 2 = some (.bool true) ∧
    (Q (.bool false) h1)) ∨ (ld1 h1 h0.next 2 = some (.bool false) ∧
    (∃ i30 : Int, ld1 h1 h.next 3 = some (.int .u64 i30) ∧
    (∃ i31 : Int, ld1 h1 h0.next 3 = some (.int .u64 i31) ∧
    (((i30 : Int) = i31 → ∃ i32 : Int, ld1 h1 h.next 4 = some (.int .u64 i32) ∧
    (∃ i33 : Int, ld1 h1 h0.next 4 = some (.int .u64 i33) ∧
    (((i32 : Int) = i33 → ∃ i34 : Int, ld1 h1 h.next 5 = some (.int .u64 i34) ∧
    (∃ i35 : Int, ld1 h1 h0.next 5 = some (.int .u64 i35) ∧
    (((i34 : Int) = i35 → ∃ i36 : Int, ld1 h1 h.next 6 = some (.int .i64 i36) ∧
    (∃ i37 : Int, ld1 h1 h0.next 6 = some (.int .i64 i37) ∧
    (((i36 : Int) = i37 → ∃ i38 : Int, ∃ i39 : Int, ∃ i40 : Int, ldN h1 h.next 7 3 = some ([(.int .i64 i38), (.int .u64 i39), (.int .u32 i40)] : List Value) ∧
    (∃ i41 : Int, ∃ i42 : Int, ∃ i43 : Int, ldN h1 h0.next 7 3 = some ([(.int .i64 i41), (.int .u64 i42), (.int .u32 i43)] : List Value) ∧
    (∃ la44 lb45, keyA Try.prog 25 (.agg #[(.int .i64 i38), (.int .u64 i39), (.int .u32 i40)]) = some la44 ∧ keyA Try.prog 25 (.agg #[(.int .i64 i41), (.int .u64 i42), (.int .u32 i43)]) = some lb45 ∧
    (litsEq la44 lb45 = true → ∃ (p46 : Option Addr) (n47 c48 : Nat), ld1 h1 h.next 10 = some (.slice p46 n47 c48) ∧
    (∃ (p49 : Option Addr) (n50 c51 : Nat), ld1 h1 h0.next 10 = some (.slice p49 n50 c51) ∧
    (Wf Try.prog K 39 [(.slice p46 n47 c48), (.slice p49 n50 c51)] h1 fun r52 h53 =>
    (((r52 = (.bool true) ∧
    (Q (.bool true) h53)) ∨ (r52 = (.bool false) ∧
    (Q (.bool false) h53))))))) ∧
    (litsEq la44 lb45 = false → Q (.bool false) h1)))) ∧
    (¬ (i36 : Int) = i37 → Q (.bool false) h1)))) ∧
    (¬ (i34 : Int) = i35 → Q (.bool false) h1)))) ∧
    (¬ (i32 : Int) = i33 → Q (.bool false) h1)))) ∧
    (¬ (i30 : Int) = i31 → Q (.bool false) h1)))))))))) ∧
    (¬ s4 = s5 → Q (.bool false) h1)))) ∧
    (¬ (i2 : Int) = i3 → Q (.bool false) h1)))) :
    Wf Try.prog K 27 [(.agg #[(.int .u64 ia0_0), (.string sa0_1), (.bool ba0_2), (.int .u64 ia0_3), (.int .u64 ia0_4), (.int .u64 ia0_5), (.int .i64 ia0_6), (.int .i64 ia0_7), (.int .u64 ia0_8), (.int .u32 ia0_9), (.slice pa0_10 na0_10 ca0_10)]), (.agg #[(.int .u64 ia1_0), (.string sa1_1), (.bool ba1_2), (.int .u64 ia1_3), (.int .u64 ia1_4), (.int .u64 ia1_5), (.int .i64 ia1_6), (.int .i64 ia1_7), (.int .u64 ia1_8), (.int .u32 ia1_9), (.slice pa1_10 na1_10 ca1_10)])] h Q :=
  vcF_sound (hs := []) hk (Eq.mpr (by kernel_rfl) H)
theorem vc_aquiferref15_SameList {K : Xs} (hk : K 34 = none) (pa0 : Option Addr) (na0 ca0 : Nat) (pa1 : Option Addr) (na1 ca1 : Nat) (h : AH) (Q : Value → AH → Prop) (H :
    ((((na0 : Nat) : Int) : Int) = ((na1 : Nat) : Int) → ∃ I0 : Int → Nat → AH → Prop, (∃ n, I0 0 n h) ∧
    ∀ (k1 : Nat) (h2 : AH) (i4 : Int), I0 i4 k1 h2 →
    ((i4 : Int) < ((na0 : Nat) : Int) → derefP pa0 fun b5 o6 => (((0 : Int) ≤ i4) ∧ ((i4 : Int) < ((na0 : Nat) : Int)) ∧
    (∃ i7 : Int, ∃ s8 : ByteArray, ∃ b9 : Bool, ∃ i10 : Int, ∃ i11 : Int, ∃ i12 : Int, ∃ i13 : Int, ∃ i14 : Int, ∃ i15 : Int, ∃ i16 : Int, ∃ (p17 : Option Addr) (n18 c19 : Nat), ldN h2 b5 (o6 + Int.toNat i4 * 11) 11 = some ([(.int .u64 i7), (.string s8), (.bool b9), (.int .u64 i10), (.int .u64 i11), (.int .u64 i12), (.int .i64 i13), (.int .i64 i14), (.int .u64 i15), (.int .u32 i16), (.slice p17 n18 c19)] : List Value) ∧
    (derefP pa1 fun b20 o21 => (((0 : Int) ≤ i4) ∧ ((i4 : Int) < ((na1 : Nat) : Int)) ∧
    (∃ i22 : Int, ∃ s23 : ByteArray, ∃ b24 : Bool, ∃ i25 : Int, ∃ i26 : Int, ∃ i27 : Int, ∃ i28 : Int, ∃ i29 : Int, ∃ i30 : Int, ∃ i31 : Int, ∃ (p32 : Option Addr) (n33 c34 : Nat), ldN h2 b20 (o21 + Int.toNat i4 * 11) 11 = some ([(.int .u64 i22), (.string s23), (.bool b24), (.int .u64 i25), (.int .u64 i26), (.int .u64 i27), (.int .i64 i28), (.int .i64 i29), (.int .u64 i30), (.int .u32 i31), (.slice p32 n33 c34)] : List Value) ∧
    (Wf Try.prog K 27 [(.agg #[(.int .u64 i7), (.string s8), (.bool b9), (.int .u64 i10), (.int .u64 i11), (.int .u64 i12), (.int .i64 i13), (.int .i64 i14), (.int .u64 i15), (.int .u32 i16), (.slice p17 n18 c19)]), (.agg #[(.int .u64 i22), (.string s23), (.bool b24), (.int .u64 i25), (.int .u64 i26), (.int .u64 i27), (.int .i64 i28), (.int .i64 i29), (.int .u64 i30), (.int .u32 i31), (.slice p32 n33 c34)])] h2 fun r35 h36 =>
    (((r35 = (.bool true) ∧
    (∀ i37 : Int, i37 = IntKind.wrap .i64 (i4 + 1) → ∃ j3, j3 < k1 ∧ I0 i37 j3 h36)) ∨ (r35 = (.bool false) ∧
    (Q (.bool false) h36))))))))))) ∧
    (¬ (i4 : Int) < ((na0 : Nat) : Int) → Q (.bool true) h2)) ∧
    (¬ (((na0 : Nat) : Int) : Int) = ((na1 : Nat) : Int) → Q (.bool false) h)) :
    Wf Try.prog K 34 [(.slice pa0 na0 ca0), (.slice pa1 na1 ca1)] h Q :=
  vcF_sound (hs := [(4, [(13, .int .i64 0)])]) hk (Eq.mpr (by kernel_rfl) H)
theorem vc_aquiferref15_Right {K : Xs} (hk : K 58 = none) (ia0_0 : Int) (sa0_1 : ByteArray) (ba0_2 : Bool) (ia0_3 : Int) (ia0_4 : Int) (ia0_5 : Int) (ia0_6 : Int) (ia0_7 : Int) (ia0_8 : Int) (ia0_9 : Int) (pa0_10 : Option Addr) (na0_10 ca0_10 : Nat) (h : AH) (Q : Value → AH → Prop) (H :
    ∀ h0 : AH, h0 = h.alloc (.cells ([(.int .u64 ia0_0), (.string sa0_1), (.bool ba0_2), (.int .u64 ia0_3), (.int .u64 ia0_4), (.int .u64 ia0_5), (.int .i64 ia0_6), (.int .i64 ia0_7), (.int .u64 ia0_8), (.int .u32 ia0_9), (.slice pa0_10 na0_10 ca0_10)] : List Value) 28 false) →
    ∃ i1 : Int, ld1 h0 h.next 0 = some (.int .u64 i1) ∧
    (Wf Try.prog K 81 [(.int .u64 i1)] h0 fun r2 h3 =>
    (((r2 = (.bool true) ∧
    (∃ i4 : Int, ld1 h3 h.next 3 = some (.int .u64 i4) ∧
    (Wf Try.prog K 81 [(.int .u64 i4)] h3 fun r5 h6 =>
    (((r5 = (.bool true) ∧
    (∃ i7 : Int, ld1 h6 h.next 4 = some (.int .u64 i7) ∧
    (((281474976710656 : Int) ≤ i7 → Q (.bool false) h6) ∧
    (¬ (281474976710656 : Int) ≤ i7 → ∃ i8 : Int, ld1 h6 h.next 6 = some (.int .i64 i8) ∧
    (((i8 : Int) < 1 → Q (.bool false) h6) ∧
    (¬ (i8 : Int) < 1 → ∃ i9 : Int, ld1 h6 h.next 6 = some (.int .i64 i9) ∧
    (((64 : Int) < i9 → Q (.bool false) h6) ∧
    (¬ (64 : Int) < i9 → ∃ (p10 : Option Addr) (n11 c12 : Nat), ld1 h6 h.next 10 = some (.slice p10 n11 c12) ∧
    (((4000 : Int) < ((n11 : Nat) : Int) → Q (.bool false) h6) ∧
    (¬ (4000 : Int) < ((n11 : Nat) : Int) → ∃ s13 : ByteArray, ld1 h6 h.next 1 = some (.string s13) ∧
    (Wf Try.prog K 82 [(.string s13)] h6 fun r14 h15 =>
    (((r14 = (.bool true) ∧
    (∃ i16 : Int, ∃ i17 : Int, ∃ i18 : Int, ldN h15 h.next 7 3 = some ([(.int .i64 i16), (.int .u64 i17), (.int .u32 i18)] : List Value) ∧
    (Wf Try.prog K 83 [(.agg #[(.int .i64 i16), (.int .u64 i17), (.int .u32 i18)])] h15 fun r19 h20 =>
    (((r19 = (.bool true) ∧
    (∃ (p21 : Option Addr) (n22 c23 : Nat), ld1 h20 h.next 10 = some (.slice p21 n22 c23) ∧
    (Wf Try.prog K 84 [(.slice p21 n22 c23)] h20 fun r24 h25 =>
    (((r24 = (.bool true) ∧
    (((ld1 h25 h.next 2 = some (.bool true) ∧
    (∃ i26 : Int, ld1 h25 h.next 5 = some (.int .u64 i26) ∧
    (Wf Try.prog K 81 [(.int .u64 i26)] h25 fun r27 h28 =>
    (((r27 = (.bool true) ∧
    (Q (.bool true) h28)) ∨ (r27 = (.bool false) ∧
    (Q (.bool false) h28))))))) ∨ (ld1 h25 h.next 2 = some (.bool false) ∧
    (∃ i29 : Int, ld1 h25 h.next 5 = some (.int .u64 i29) ∧
    (((i29 : Int) = 0 → ∃ i30 : Int, ld1 h25 h.next 3 = some (.int .u64 i30) ∧
    (∃ i31 : Int, ld1 h25 h.next 0 = some (.int .u64 i31) ∧
    (((i30 : Int) = i31 → Q (.bool true) h25) ∧
    (¬ (i30 : Int) = i31 → Q (.bool false) h25)))) ∧
    (¬ (i29 : Int) = 0 → Q (.bool false) h25))))))) ∨ (r24 = (.bool false) ∧
    (Q (.bool false) h25))))))) ∨ (r19 = (.bool false) ∧
    (Q (.bool false) h20))))))) ∨ (r14 = (.bool false) ∧
    (Q (.bool false) h15))))))))))))))) ∨ (r5 = (.bool false) ∧
    (Q (.bool false) h6))))))) ∨ (r2 = (.bool false) ∧
    (Q (.bool false) h3)))))) :
    Wf Try.prog K 58 [(.agg #[(.int .u64 ia0_0), (.string sa0_1), (.bool ba0_2), (.int .u64 ia0_3), (.int .u64 ia0_4), (.int .u64 ia0_5), (.int .i64 ia0_6), (.int .i64 ia0_7), (.int .u64 ia0_8), (.int .u32 ia0_9), (.slice pa0_10 na0_10 ca0_10)])] h Q :=
  vcF_sound (hs := []) hk (Eq.mpr (by kernel_rfl) H)
theorem vc_aquiferref15_stamp {K : Xs} (hk : K 81 = none) (ia0 : Int) (h : AH) (Q : Value → AH → Prop) (H :
    ((0 : Int) < ia0 → ((ia0 : Int) < 281474976710656 → Q (.bool true) h) ∧
    (¬ (ia0 : Int) < 281474976710656 → Q (.bool false) h)) ∧
    (¬ (0 : Int) < ia0 → Q (.bool false) h)) :
    Wf Try.prog K 81 [(.int .u64 ia0)] h Q :=
  vcF_sound (hs := []) hk (Eq.mpr (by kernel_rfl) H)
theorem vc_aquiferref02_SameNums {K : Xs} (hk : K 32 = none) (pa0 : Option Addr) (na0 ca0 : Nat) (pa1 : Option Addr) (na1 ca1 : Nat) (h : AH) (Q : Value → AH → Prop) (H :
    ((((na0 : Nat) : Int) : Int) = ((na1 : Nat) : Int) → ∃ I0 : Int → Nat → AH → Prop, (∃ n, I0 0 n h) ∧
    ∀ (k1 : Nat) (h2 : AH) (i4 : Int), I0 i4 k1 h2 →
    ((i4 : Int) < ((na0 : Nat) : Int) → derefP pa0 fun b5 o6 => (((0 : Int) ≤ i4) ∧ ((i4 : Int) < ((na0 : Nat) : Int)) ∧
    (∃ i7 : Int, ld1 h2 b5 (o6 + Int.toNat i4 * 1) = some (.int .u64 i7) ∧
    (derefP pa1 fun b8 o9 => (((0 : Int) ≤ i4) ∧ ((i4 : Int) < ((na1 : Nat) : Int)) ∧
    (∃ i10 : Int, ld1 h2 b8 (o9 + Int.toNat i4 * 1) = some (.int .u64 i10) ∧
    (((i7 : Int) = i10 → ∀ i11 : Int, i11 = IntKind.wrap .i64 (i4 + 1) → ∃ j3, j3 < k1 ∧ I0 i11 j3 h2) ∧
    (¬ (i7 : Int) = i10 → Q (.bool false) h2)))))))) ∧
    (¬ (i4 : Int) < ((na0 : Nat) : Int) → Q (.bool true) h2)) ∧
    (¬ (((na0 : Nat) : Int) : Int) = ((na1 : Nat) : Int) → Q (.bool false) h)) :
    Wf Try.prog K 32 [(.slice pa0 na0 ca0), (.slice pa1 na1 ca1)] h Q :=
  vcF_sound (hs := [(4, [(13, .int .i64 0)])]) hk (Eq.mpr (by kernel_rfl) H)
theorem vc_aquiferref14_Split {K : Xs} (hk : K 59 = none) (sa0 : ByteArray) (h : AH) (Q : Value → AH → Prop) (H :
    Wf Try.prog K 82 [(.string sa0)] h fun r0 h1 =>
    (((r0 = (.bool true) ∧
    (Q (.tuple #[(.string sa0), (.string (ByteArray.mk #[])), (.int .i64 0)]) h1)) ∨ (r0 = (.bool false) ∧
    (∃ I2 : Int → Nat → AH → Prop, (∃ n, I2 0 n h1) ∧
    ∀ (k3 : Nat) (h4 : AH) (i6 : Int), I2 i6 k3 h4 →
    ((i6 : Int) < ((ByteArray.size sa0 : Nat) : Int) → ((0 : Int) ≤ i6) ∧ ∃ c7 : UInt8, sa0[Int.toNat i6]? = some c7 ∧
    (((((c7.toNat : Nat) : Int) : Int) = 64 → ∃ s8 : ByteArray, aSlice Try.prog h4 9 (.string sa0) none (some (.int .i64 i6)) none = some (.string s8) ∧
    (Wf Try.prog K 82 [(.string s8)] h4 fun r9 h10 =>
    (((r9 = (.bool true) ∧
    (∀ i11 : Int, i11 = IntKind.wrap .i64 (i6 + 1) → ∃ s12 : ByteArray, aSlice Try.prog h10 9 (.string sa0) (some (.int .i64 i11)) none none = some (.string s12) ∧
    (Wf Try.prog K 82 [(.string s12)] h10 fun r13 h14 =>
    (((r13 = (.bool true) ∧
    (∃ s15 : ByteArray, aSlice Try.prog h14 9 (.string sa0) none (some (.int .i64 i6)) none = some (.string s15) ∧
    (∀ i16 : Int, i16 = IntKind.wrap .i64 (i6 + 1) → ∃ s17 : ByteArray, aSlice Try.prog h14 9 (.string sa0) (some (.int .i64 i16)) none none = some (.string s17) ∧
    (Q (.tuple #[(.string s15), (.string s17), (.int .i64 0)]) h14)))) ∨ (r13 = (.bool false) ∧
    (∀ i18 : Int, i18 = IntKind.wrap .i64 (i6 + 1) → ∃ j5, j5 < k3 ∧ I2 i18 j5 h14))))))) ∨ (r9 = (.bool false) ∧
    (∀ i19 : Int, i19 = IntKind.wrap .i64 (i6 + 1) → ∃ j5, j5 < k3 ∧ I2 i19 j5 h10)))))) ∧
    (¬ (((c7.toNat : Nat) : Int) : Int) = 64 → ∀ i20 : Int, i20 = IntKind.wrap .i64 (i6 + 1) → ∃ j5, j5 < k3 ∧ I2 i20 j5 h4))) ∧
    (¬ (i6 : Int) < ((ByteArray.size sa0 : Nat) : Int) → Q (.tuple #[(.string (ByteArray.mk #[])), (.string (ByteArray.mk #[])), (.int .i64 141)]) h4)))))) :
    Wf Try.prog K 59 [(.string sa0)] h Q :=
  vcF_sound (hs := [(4, [(5, .int .i64 0)])]) hk (Eq.mpr (by kernel_rfl) H)
theorem vc_aquiferref14_Right {K : Xs} (hk : K 82 = none) (sa0 : ByteArray) (h : AH) (Q : Value → AH → Prop) (H :
    ((((ByteArray.size sa0 : Nat) : Int) : Int) < 1 → Q (.bool false) h) ∧
    (¬ (((ByteArray.size sa0 : Nat) : Int) : Int) < 1 → ((24 : Int) < ((ByteArray.size sa0 : Nat) : Int) → Q (.bool false) h) ∧
    (¬ (24 : Int) < ((ByteArray.size sa0 : Nat) : Int) → ∃ I0 : Int → Nat → AH → Prop, (∃ n, I0 0 n h) ∧
    ∀ (k1 : Nat) (h2 : AH) (i4 : Int), I0 i4 k1 h2 →
    ((i4 : Int) < ((ByteArray.size sa0 : Nat) : Int) → ((0 : Int) ≤ i4) ∧ ∃ c5 : UInt8, sa0[Int.toNat i4]? = some c5 ∧
    (((97 : Int) ≤ ((c5.toNat : Nat) : Int) → ((((c5.toNat : Nat) : Int) : Int) ≤ 122 → ∀ i6 : Int, i6 = IntKind.wrap .i64 (i4 + 1) → ∃ j3, j3 < k1 ∧ I0 i6 j3 h2) ∧
    (¬ (((c5.toNat : Nat) : Int) : Int) ≤ 122 → ((48 : Int) ≤ ((c5.toNat : Nat) : Int) → ((((c5.toNat : Nat) : Int) : Int) ≤ 57 → ∀ i7 : Int, i7 = IntKind.wrap .i64 (i4 + 1) → ∃ j3, j3 < k1 ∧ I0 i7 j3 h2) ∧
    (¬ (((c5.toNat : Nat) : Int) : Int) ≤ 57 → ((((c5.toNat : Nat) : Int) : Int) = 45 → ∀ i8 : Int, i8 = IntKind.wrap .i64 (i4 + 1) → ∃ j3, j3 < k1 ∧ I0 i8 j3 h2) ∧
    (¬ (((c5.toNat : Nat) : Int) : Int) = 45 → ((((c5.toNat : Nat) : Int) : Int) = 95 → ∀ i9 : Int, i9 = IntKind.wrap .i64 (i4 + 1) → ∃ j3, j3 < k1 ∧ I0 i9 j3 h2) ∧
    (¬ (((c5.toNat : Nat) : Int) : Int) = 95 → Q (.bool false) h2)))) ∧
    (¬ (48 : Int) ≤ ((c5.toNat : Nat) : Int) → ((((c5.toNat : Nat) : Int) : Int) = 45 → ∀ i10 : Int, i10 = IntKind.wrap .i64 (i4 + 1) → ∃ j3, j3 < k1 ∧ I0 i10 j3 h2) ∧
    (¬ (((c5.toNat : Nat) : Int) : Int) = 45 → ((((c5.toNat : Nat) : Int) : Int) = 95 → ∀ i11 : Int, i11 = IntKind.wrap .i64 (i4 + 1) → ∃ j3, j3 < k1 ∧ I0 i11 j3 h2) ∧
    (¬ (((c5.toNat : Nat) : Int) : Int) = 95 → Q (.bool false) h2))))) ∧
    (¬ (97 : Int) ≤ ((c5.toNat : Nat) : Int) → ((48 : Int) ≤ ((c5.toNat : Nat) : Int) → ((((c5.toNat : Nat) : Int) : Int) ≤ 57 → ∀ i12 : Int, i12 = IntKind.wrap .i64 (i4 + 1) → ∃ j3, j3 < k1 ∧ I0 i12 j3 h2) ∧
    (¬ (((c5.toNat : Nat) : Int) : Int) ≤ 57 → ((((c5.toNat : Nat) : Int) : Int) = 45 → ∀ i13 : Int, i13 = IntKind.wrap .i64 (i4 + 1) → ∃ j3, j3 < k1 ∧ I0 i13 j3 h2) ∧
    (¬ (((c5.toNat : Nat) : Int) : Int) = 45 → ((((c5.toNat : Nat) : Int) : Int) = 95 → ∀ i14 : Int, i14 = IntKind.wrap .i64 (i4 + 1) → ∃ j3, j3 < k1 ∧ I0 i14 j3 h2) ∧
    (¬ (((c5.toNat : Nat) : Int) : Int) = 95 → Q (.bool false) h2)))) ∧
    (¬ (48 : Int) ≤ ((c5.toNat : Nat) : Int) → ((((c5.toNat : Nat) : Int) : Int) = 45 → ∀ i15 : Int, i15 = IntKind.wrap .i64 (i4 + 1) → ∃ j3, j3 < k1 ∧ I0 i15 j3 h2) ∧
    (¬ (((c5.toNat : Nat) : Int) : Int) = 45 → ((((c5.toNat : Nat) : Int) : Int) = 95 → ∀ i16 : Int, i16 = IntKind.wrap .i64 (i4 + 1) → ∃ j3, j3 < k1 ∧ I0 i16 j3 h2) ∧
    (¬ (((c5.toNat : Nat) : Int) : Int) = 95 → Q (.bool false) h2)))))) ∧
    (¬ (i4 : Int) < ((ByteArray.size sa0 : Nat) : Int) → Q (.bool true) h2)))) :
    Wf Try.prog K 82 [(.string sa0)] h Q :=
  vcF_sound (hs := [(4, [(3, .int .i64 0)])]) hk (Eq.mpr (by kernel_rfl) H)
theorem vc_aquiferref05_Right {K : Xs} (hk : K 83 = none) (ia0_0 : Int) (ia0_1 : Int) (ia0_2 : Int) (h : AH) (Q : Value → AH → Prop) (H :
    ∀ h0 : AH, h0 = h.alloc (.cells ([(.int .i64 ia0_0), (.int .u64 ia0_1), (.int .u32 ia0_2)] : List Value) 25 false) →
    ∃ i1 : Int, ld1 h0 h.next 0 = some (.int .i64 i1) ∧
    (((i1 : Int) = 0 → ∃ i2 : Int, ld1 h0 h.next 1 = some (.int .u64 i2) ∧
    (((i2 : Int) = 0 → ∃ i3 : Int, ld1 h0 h.next 2 = some (.int .u32 i3) ∧
    (((i3 : Int) = 0 → Q (.bool true) h0) ∧
    (¬ (i3 : Int) = 0 → ∃ i4 : Int, ld1 h0 h.next 0 = some (.int .i64 i4) ∧
    (((4 : Int) ≤ i4 → ∃ i5 : Int, ld1 h0 h.next 0 = some (.int .i64 i5) ∧
    (((i5 : Int) ≤ 1023 → ∃ i6 : Int, ld1 h0 h.next 1 = some (.int .u64 i6) ∧
    (((1 : Int) ≤ i6 → ∃ i7 : Int, ld1 h0 h.next 1 = some (.int .u64 i7) ∧
    (((i7 : Int) < 281474976710656 → Q (.bool true) h0) ∧
    (¬ (i7 : Int) < 281474976710656 → Q (.bool false) h0))) ∧
    (¬ (1 : Int) ≤ i6 → Q (.bool false) h0))) ∧
    (¬ (i5 : Int) ≤ 1023 → Q (.bool false) h0))) ∧
    (¬ (4 : Int) ≤ i4 → Q (.bool false) h0))))) ∧
    (¬ (i2 : Int) = 0 → ∃ i8 : Int, ld1 h0 h.next 0 = some (.int .i64 i8) ∧
    (((4 : Int) ≤ i8 → ∃ i9 : Int, ld1 h0 h.next 0 = some (.int .i64 i9) ∧
    (((i9 : Int) ≤ 1023 → ∃ i10 : Int, ld1 h0 h.next 1 = some (.int .u64 i10) ∧
    (((1 : Int) ≤ i10 → ∃ i11 : Int, ld1 h0 h.next 1 = some (.int .u64 i11) ∧
    (((i11 : Int) < 281474976710656 → Q (.bool true) h0) ∧
    (¬ (i11 : Int) < 281474976710656 → Q (.bool false) h0))) ∧
    (¬ (1 : Int) ≤ i10 → Q (.bool false) h0))) ∧
    (¬ (i9 : Int) ≤ 1023 → Q (.bool false) h0))) ∧
    (¬ (4 : Int) ≤ i8 → Q (.bool false) h0))))) ∧
    (¬ (i1 : Int) = 0 → ∃ i12 : Int, ld1 h0 h.next 0 = some (.int .i64 i12) ∧
    (((4 : Int) ≤ i12 → ∃ i13 : Int, ld1 h0 h.next 0 = some (.int .i64 i13) ∧
    (((i13 : Int) ≤ 1023 → ∃ i14 : Int, ld1 h0 h.next 1 = some (.int .u64 i14) ∧
    (((1 : Int) ≤ i14 → ∃ i15 : Int, ld1 h0 h.next 1 = some (.int .u64 i15) ∧
    (((i15 : Int) < 281474976710656 → Q (.bool true) h0) ∧
    (¬ (i15 : Int) < 281474976710656 → Q (.bool false) h0))) ∧
    (¬ (1 : Int) ≤ i14 → Q (.bool false) h0))) ∧
    (¬ (i13 : Int) ≤ 1023 → Q (.bool false) h0))) ∧
    (¬ (4 : Int) ≤ i12 → Q (.bool false) h0))))) :
    Wf Try.prog K 83 [(.agg #[(.int .i64 ia0_0), (.int .u64 ia0_1), (.int .u32 ia0_2)])] h Q :=
  vcF_sound (hs := []) hk (Eq.mpr (by kernel_rfl) H)
theorem vc_aquiferref13_Right {K : Xs} (hk : K 84 = none) (pa0 : Option Addr) (na0 ca0 : Nat) (h : AH) (Q : Value → AH → Prop) (H :
    ∃ I0 : Int → Nat → AH → Prop, (∃ n, I0 0 n h) ∧
    ∀ (k1 : Nat) (h2 : AH) (i4 : Int), I0 i4 k1 h2 →
    ((i4 : Int) < ((na0 : Nat) : Int) → derefP pa0 fun b5 o6 => (((0 : Int) ≤ i4) ∧ ((i4 : Int) < ((na0 : Nat) : Int)) ∧
    (∃ i7 : Int, ∃ i8 : Int, ∃ i9 : Int, ldN h2 b5 (o6 + Int.toNat i4 * 3) 3 = some ([(.int .i64 i7), (.int .u64 i8), (.int .u32 i9)] : List Value) ∧
    (Wf Try.prog K 109 [(.agg #[(.int .i64 i7), (.int .u64 i8), (.int .u32 i9)])] h2 fun r10 h11 =>
    (((r10 = (.bool true) ∧
    (((0 : Int) < i4 → ∀ i12 : Int, i12 = IntKind.wrap .i64 (i4 - 1) → derefP pa0 fun b13 o14 => (((0 : Int) ≤ i12) ∧ ((i12 : Int) < ((na0 : Nat) : Int)) ∧
    (∃ i15 : Int, ∃ i16 : Int, ∃ i17 : Int, ldN h11 b13 (o14 + Int.toNat i12 * 3) 3 = some ([(.int .i64 i15), (.int .u64 i16), (.int .u32 i17)] : List Value) ∧
    (derefP pa0 fun b18 o19 => (((0 : Int) ≤ i4) ∧ ((i4 : Int) < ((na0 : Nat) : Int)) ∧
    (∃ i20 : Int, ∃ i21 : Int, ∃ i22 : Int, ldN h11 b18 (o19 + Int.toNat i4 * 3) 3 = some ([(.int .i64 i20), (.int .u64 i21), (.int .u32 i22)] : List Value) ∧
    (Wf Try.prog K 110 [(.agg #[(.int .i64 i15), (.int .u64 i16), (.int .u32 i17)]), (.agg #[(.int .i64 i20), (.int .u64 i21), (.int .u32 i22)])] h11 fun r23 h24 =>
    (((r23 = (.bool true) ∧
    (∀ i25 : Int, i25 = IntKind.wrap .i64 (i4 + 1) → ∃ j3, j3 < k1 ∧ I0 i25 j3 h24)) ∨ (r23 = (.bool false) ∧
    (Q (.bool false) h24))))))))))) ∧
    (¬ (0 : Int) < i4 → ∀ i26 : Int, i26 = IntKind.wrap .i64 (i4 + 1) → ∃ j3, j3 < k1 ∧ I0 i26 j3 h11))) ∨ (r10 = (.bool false) ∧
    (Q (.bool false) h11)))))))) ∧
    (¬ (i4 : Int) < ((na0 : Nat) : Int) → Q (.bool true) h2)) :
    Wf Try.prog K 84 [(.slice pa0 na0 ca0)] h Q :=
  vcF_sound (hs := [(2, [(6, .int .i64 0)])]) hk (Eq.mpr (by kernel_rfl) H)
theorem vc_aquiferref13_one {K : Xs} (hk : K 109 = none) (ia0_0 : Int) (ia0_1 : Int) (ia0_2 : Int) (h : AH) (Q : Value → AH → Prop) (H :
    ∀ h0 : AH, h0 = h.alloc (.cells ([(.int .i64 ia0_0), (.int .u64 ia0_1), (.int .u32 ia0_2)] : List Value) 25 false) →
    ∃ i1 : Int, ∃ i2 : Int, ∃ i3 : Int, ldN h0 h.next 0 3 = some ([(.int .i64 i1), (.int .u64 i2), (.int .u32 i3)] : List Value) ∧
    (Wf Try.prog K 113 [(.agg #[(.int .i64 i1), (.int .u64 i2), (.int .u32 i3)])] h0 fun r4 h5 =>
    (((r4 = (.bool true) ∧
    (Q (.bool false) h5)) ∨ (r4 = (.bool false) ∧
    (∃ i6 : Int, ∃ i7 : Int, ∃ i8 : Int, ldN h5 h.next 0 3 = some ([(.int .i64 i6), (.int .u64 i7), (.int .u32 i8)] : List Value) ∧
    (Wf Try.prog K 83 [(.agg #[(.int .i64 i6), (.int .u64 i7), (.int .u32 i8)])] h5 fun r9 h10 =>
    (((r9 = (.bool true) ∧
    (Q (.bool true) h10)) ∨ (r9 = (.bool false) ∧
    (Q (.bool false) h10))))))))))) :
    Wf Try.prog K 109 [(.agg #[(.int .i64 ia0_0), (.int .u64 ia0_1), (.int .u32 ia0_2)])] h Q :=
  vcF_sound (hs := []) hk (Eq.mpr (by kernel_rfl) H)
theorem vc_aquiferref05_Less {K : Xs} (hk : K 110 = none) (ia0_0 : Int) (ia0_1 : Int) (ia0_2 : Int) (ia1_0 : Int) (ia1_1 : Int) (ia1_2 : Int) (h : AH) (Q : Value → AH → Prop) (H :
    ∀ h0 : AH, h0 = h.alloc (.cells ([(.int .i64 ia0_0), (.int .u64 ia0_1), (.int .u32 ia0_2)] : List Value) 25 false) →
    ∀ h1 : AH, h1 = h0.alloc (.cells ([(.int .i64 ia1_0), (.int .u64 ia1_1), (.int .u32 ia1_2)] : List Value) 25 false) →
    ∃ i2 : Int, ld1 h1 h.next 1 = some (.int .u64 i2) ∧
    (∃ i3 : Int, ld1 h1 h0.next 1 = some (.int .u64 i3) ∧
    (((i2 : Int) = i3 → ∃ i4 : Int, ld1 h1 h.next 0 = some (.int .i64 i4) ∧
    (∃ i5 : Int, ld1 h1 h0.next 0 = some (.int .i64 i5) ∧
    (((i4 : Int) = i5 → ∃ i6 : Int, ld1 h1 h.next 2 = some (.int .u32 i6) ∧
    (∃ i7 : Int, ld1 h1 h0.next 2 = some (.int .u32 i7) ∧
    (((i6 : Int) < i7 → Q (.bool true) h1) ∧
    (¬ (i6 : Int) < i7 → Q (.bool false) h1)))) ∧
    (¬ (i4 : Int) = i5 → ∃ i8 : Int, ld1 h1 h.next 0 = some (.int .i64 i8) ∧
    (∃ i9 : Int, ld1 h1 h0.next 0 = some (.int .i64 i9) ∧
    (((i8 : Int) < i9 → Q (.bool true) h1) ∧
    (¬ (i8 : Int) < i9 → Q (.bool false) h1))))))) ∧
    (¬ (i2 : Int) = i3 → ∃ i10 : Int, ld1 h1 h.next 1 = some (.int .u64 i10) ∧
    (∃ i11 : Int, ld1 h1 h0.next 1 = some (.int .u64 i11) ∧
    (((i10 : Int) < i11 → Q (.bool true) h1) ∧
    (¬ (i10 : Int) < i11 → Q (.bool false) h1))))))) :
    Wf Try.prog K 110 [(.agg #[(.int .i64 ia0_0), (.int .u64 ia0_1), (.int .u32 ia0_2)]), (.agg #[(.int .i64 ia1_0), (.int .u64 ia1_1), (.int .u32 ia1_2)])] h Q :=
  vcF_sound (hs := []) hk (Eq.mpr (by kernel_rfl) H)
theorem vc_aquiferref11_Same {K : Xs} (hk : K 39 = none) (pa0 : Option Addr) (na0 ca0 : Nat) (pa1 : Option Addr) (na1 ca1 : Nat) (h : AH) (Q : Value → AH → Prop) (H :
    ((((na0 : Nat) : Int) : Int) = ((na1 : Nat) : Int) → ∃ I0 : Int → Nat → AH → Prop, (∃ n, I0 0 n h) ∧
    ∀ (k1 : Nat) (h2 : AH) (i4 : Int), I0 i4 k1 h2 →
    ((i4 : Int) < ((na0 : Nat) : Int) → derefP pa0 fun b5 o6 => (((0 : Int) ≤ i4) ∧ ((i4 : Int) < ((na0 : Nat) : Int)) ∧
    (∃ i7 : Int, ∃ i8 : Int, ∃ i9 : Int, ldN h2 b5 (o6 + Int.toNat i4 * 3) 3 = some ([(.int .i64 i7), (.int .u64 i8), (.int .u32 i9)] : List Value) ∧
    (derefP pa1 fun b10 o11 => (((0 : Int) ≤ i4) ∧ ((i4 : Int) < ((na1 : Nat) : Int)) ∧
    (∃ i12 : Int, ∃ i13 : Int, ∃ i14 : Int, ldN h2 b10 (o11 + Int.toNat i4 * 3) 3 = some ([(.int .i64 i12), (.int .u64 i13), (.int .u32 i14)] : List Value) ∧
    (∃ la15 lb16, keyA Try.prog 25 (.agg #[(.int .i64 i7), (.int .u64 i8), (.int .u32 i9)]) = some la15 ∧ keyA Try.prog 25 (.agg #[(.int .i64 i12), (.int .u64 i13), (.int .u32 i14)]) = some lb16 ∧
    (litsEq la15 lb16 = true → ∀ i17 : Int, i17 = IntKind.wrap .i64 (i4 + 1) → ∃ j3, j3 < k1 ∧ I0 i17 j3 h2) ∧
    (litsEq la15 lb16 = false → Q (.bool false) h2)))))))) ∧
    (¬ (i4 : Int) < ((na0 : Nat) : Int) → Q (.bool true) h2)) ∧
    (¬ (((na0 : Nat) : Int) : Int) = ((na1 : Nat) : Int) → Q (.bool false) h)) :
    Wf Try.prog K 39 [(.slice pa0 na0 ca0), (.slice pa1 na1 ca1)] h Q :=
  vcF_sound (hs := [(4, [(13, .int .i64 0)])]) hk (Eq.mpr (by kernel_rfl) H)
theorem vc_aquiferref10_Hole {K : Xs} (hk : K 113 = none) (ia0_0 : Int) (ia0_1 : Int) (ia0_2 : Int) (h : AH) (Q : Value → AH → Prop) (H :
    ∀ h0 : AH, h0 = h.alloc (.cells ([(.int .i64 ia0_0), (.int .u64 ia0_1), (.int .u32 ia0_2)] : List Value) 25 false) →
    ∃ i1 : Int, ld1 h0 h.next 0 = some (.int .i64 i1) ∧
    (((i1 : Int) = 0 → ∃ i2 : Int, ld1 h0 h.next 1 = some (.int .u64 i2) ∧
    (((i2 : Int) = 0 → ∃ i3 : Int, ld1 h0 h.next 2 = some (.int .u32 i3) ∧
    (((i3 : Int) = 0 → Q (.bool true) h0) ∧
    (¬ (i3 : Int) = 0 → Q (.bool false) h0))) ∧
    (¬ (i2 : Int) = 0 → Q (.bool false) h0))) ∧
    (¬ (i1 : Int) = 0 → Q (.bool false) h0))) :
    Wf Try.prog K 113 [(.agg #[(.int .i64 ia0_0), (.int .u64 ia0_1), (.int .u32 ia0_2)])] h Q :=
  vcF_sound (hs := []) hk (Eq.mpr (by kernel_rfl) H)
theorem vc_aquiferlaw16_FamilyTells {K : Xs} (hk : K 8 = none) (pa0 : Option Addr) (na0 ca0 : Nat) (ia1 : Int) (sa2 : ByteArray) (h : AH) (Q : Value → AH → Prop) (H :
    Wf Try.prog K 12 [] h fun r0 h1 =>
    (((r0 = (.bool true) ∧
    (((40 : Int) < ((na0 : Nat) : Int) → Q (.bool true) h1) ∧
    (¬ (40 : Int) < ((na0 : Nat) : Int) → Wf Try.prog K 23 [(.int .u64 281474976710655), (.slice pa0 na0 ca0)] h1 fun r2 h3 =>
    (((r2 = (.bool true) ∧
    (Wf Try.prog K 24 [(.slice pa0 na0 ca0)] h3 fun r4 h5 =>
    (∃ (p6 : Option Addr) (n7 c8 : Nat), r4 = (.slice p6 n7 c8) ∧
    (Wf Try.prog K 17 [(.slice p6 n7 c8), (.int .u64 ia1)] h5 fun r9 h10 =>
    (∃ i11 : Int, ∃ s12 : ByteArray, ∃ b13 : Bool, ∃ i14 : Int, ∃ i15 : Int, ∃ i16 : Int, ∃ i17 : Int, ∃ i18 : Int, ∃ i19 : Int, ∃ i20 : Int, ∃ (p21 : Option Addr) (n22 c23 : Nat), ((r9 = (.tuple #[(.agg #[(.int .u64 i11), (.string s12), (.bool b13), (.int .u64 i14), (.int .u64 i15), (.int .u64 i16), (.int .i64 i17), (.int .i64 i18), (.int .u64 i19), (.int .u32 i20), (.slice p21 n22 c23)]), (.bool true)]) ∧
    (∀ h24 : AH, h24 = h10.alloc (.cells ([(.int .u64 0), (.string (ByteArray.mk #[])), (.bool false), (.int .u64 0), (.int .u64 0), (.int .u64 0), (.int .i64 0), (.int .i64 0), (.int .u64 0), (.int .u32 0), (.slice none 0 0)] : List Value) 28 false) →
    (List.length ([(.int .u64 i11), (.string s12), (.bool b13), (.int .u64 i14), (.int .u64 i15), (.int .u64 i16), (.int .i64 i17), (.int .i64 i18), (.int .u64 i19), (.int .u32 i20), (.slice p21 n22 c23)] : List Value) = 11) ∧ ∃ h25 : AH, stN h24 h10.next 0 ([(.int .u64 i11), (.string s12), (.bool b13), (.int .u64 i14), (.int .u64 i15), (.int .u64 i16), (.int .i64 i17), (.int .i64 i18), (.int .u64 i19), (.int .u32 i20), (.slice p21 n22 c23)] : List Value) = some h25 ∧
    (Wf Try.prog K 25 [(.slice pa0 na0 ca0), (.int .u64 ia1)] h25 fun r26 h27 =>
    (∃ i28 : Int, ∃ s29 : ByteArray, ∃ b30 : Bool, ∃ i31 : Int, ∃ i32 : Int, ∃ i33 : Int, ∃ i34 : Int, ∃ i35 : Int, ∃ i36 : Int, ∃ i37 : Int, ∃ (p38 : Option Addr) (n39 c40 : Nat), ((r26 = (.tuple #[(.agg #[(.int .u64 i28), (.string s29), (.bool b30), (.int .u64 i31), (.int .u64 i32), (.int .u64 i33), (.int .i64 i34), (.int .i64 i35), (.int .u64 i36), (.int .u32 i37), (.slice p38 n39 c40)]), (.bool true)]) ∧
    (∀ h41 : AH, h41 = h27.alloc (.cells ([(.int .u64 0), (.string (ByteArray.mk #[])), (.bool false), (.int .u64 0), (.int .u64 0), (.int .u64 0), (.int .i64 0), (.int .i64 0), (.int .u64 0), (.int .u32 0), (.slice none 0 0)] : List Value) 28 false) →
    (List.length ([(.int .u64 i28), (.string s29), (.bool b30), (.int .u64 i31), (.int .u64 i32), (.int .u64 i33), (.int .i64 i34), (.int .i64 i35), (.int .u64 i36), (.int .u32 i37), (.slice p38 n39 c40)] : List Value) = 11) ∧ ∃ h42 : AH, stN h41 h27.next 0 ([(.int .u64 i28), (.string s29), (.bool b30), (.int .u64 i31), (.int .u64 i32), (.int .u64 i33), (.int .i64 i34), (.int .i64 i35), (.int .u64 i36), (.int .u32 i37), (.slice p38 n39 c40)] : List Value) = some h42 ∧
    (Wf Try.prog K 11 [(.slice p6 n7 c8), (.string sa2)] h42 fun r43 h44 =>
    (∃ i45 : Int, ∃ s46 : ByteArray, ∃ b47 : Bool, ∃ i48 : Int, ∃ i49 : Int, ∃ i50 : Int, ∃ i51 : Int, ∃ i52 : Int, ∃ i53 : Int, ∃ i54 : Int, ∃ (p55 : Option Addr) (n56 c57 : Nat), ∃ i58 : Int, r43 = (.tuple #[(.agg #[(.int .u64 i45), (.string s46), (.bool b47), (.int .u64 i48), (.int .u64 i49), (.int .u64 i50), (.int .i64 i51), (.int .i64 i52), (.int .u64 i53), (.int .u32 i54), (.slice p55 n56 c57)]), (.int .i64 i58)]) ∧
    (∀ h59 : AH, h59 = h44.alloc (.cells ([(.int .u64 0), (.string (ByteArray.mk #[])), (.bool false), (.int .u64 0), (.int .u64 0), (.int .u64 0), (.int .i64 0), (.int .i64 0), (.int .u64 0), (.int .u32 0), (.slice none 0 0)] : List Value) 28 false) →
    (List.length ([(.int .u64 i45), (.string s46), (.bool b47), (.int .u64 i48), (.int .u64 i49), (.int .u64 i50), (.int .i64 i51), (.int .i64 i52), (.int .u64 i53), (.int .u32 i54), (.slice p55 n56 c57)] : List Value) = 11) ∧ ∃ h60 : AH, stN h59 h44.next 0 ([(.int .u64 i45), (.string s46), (.bool b47), (.int .u64 i48), (.int .u64 i49), (.int .u64 i50), (.int .i64 i51), (.int .i64 i52), (.int .u64 i53), (.int .u32 i54), (.slice p55 n56 c57)] : List Value) = some h60 ∧
    (Wf Try.prog K 26 [(.slice pa0 na0 ca0), (.string sa2)] h60 fun r61 h62 =>
    (∃ i63 : Int, ∃ s64 : ByteArray, ∃ b65 : Bool, ∃ i66 : Int, ∃ i67 : Int, ∃ i68 : Int, ∃ i69 : Int, ∃ i70 : Int, ∃ i71 : Int, ∃ i72 : Int, ∃ (p73 : Option Addr) (n74 c75 : Nat), ∃ i76 : Int, r61 = (.tuple #[(.agg #[(.int .u64 i63), (.string s64), (.bool b65), (.int .u64 i66), (.int .u64 i67), (.int .u64 i68), (.int .i64 i69), (.int .i64 i70), (.int .u64 i71), (.int .u32 i72), (.slice p73 n74 c75)]), (.int .i64 i76)]) ∧
    (∀ h77 : AH, h77 = h62.alloc (.cells ([(.int .u64 0), (.string (ByteArray.mk #[])), (.bool false), (.int .u64 0), (.int .u64 0), (.int .u64 0), (.int .i64 0), (.int .i64 0), (.int .u64 0), (.int .u32 0), (.slice none 0 0)] : List Value) 28 false) →
    (List.length ([(.int .u64 i63), (.string s64), (.bool b65), (.int .u64 i66), (.int .u64 i67), (.int .u64 i68), (.int .i64 i69), (.int .i64 i70), (.int .u64 i71), (.int .u32 i72), (.slice p73 n74 c75)] : List Value) = 11) ∧ ∃ h78 : AH, stN h77 h62.next 0 ([(.int .u64 i63), (.string s64), (.bool b65), (.int .u64 i66), (.int .u64 i67), (.int .u64 i68), (.int .i64 i69), (.int .i64 i70), (.int .u64 i71), (.int .u32 i72), (.slice p73 n74 c75)] : List Value) = some h78 ∧
    (∃ i79 : Int, ∃ s80 : ByteArray, ∃ b81 : Bool, ∃ i82 : Int, ∃ i83 : Int, ∃ i84 : Int, ∃ i85 : Int, ∃ i86 : Int, ∃ i87 : Int, ∃ i88 : Int, ∃ (p89 : Option Addr) (n90 c91 : Nat), ldN h78 h10.next 0 11 = some ([(.int .u64 i79), (.string s80), (.bool b81), (.int .u64 i82), (.int .u64 i83), (.int .u64 i84), (.int .i64 i85), (.int .i64 i86), (.int .u64 i87), (.int .u32 i88), (.slice p89 n90 c91)] : List Value) ∧
    (∃ i92 : Int, ∃ s93 : ByteArray, ∃ b94 : Bool, ∃ i95 : Int, ∃ i96 : Int, ∃ i97 : Int, ∃ i98 : Int, ∃ i99 : Int, ∃ i100 : Int, ∃ i101 : Int, ∃ (p102 : Option Addr) (n103 c104 : Nat), ldN h78 h27.next 0 11 = some ([(.int .u64 i92), (.string s93), (.bool b94), (.int .u64 i95), (.int .u64 i96), (.int .u64 i97), (.int .i64 i98), (.int .i64 i99), (.int .u64 i100), (.int .u32 i101), (.slice p102 n103 c104)] : List Value) ∧
    (Wf Try.prog K 27 [(.agg #[(.int .u64 i79), (.string s80), (.bool b81), (.int .u64 i82), (.int .u64 i83), (.int .u64 i84), (.int .i64 i85), (.int .i64 i86), (.int .u64 i87), (.int .u32 i88), (.slice p89 n90 c91)]), (.agg #[(.int .u64 i92), (.string s93), (.bool b94), (.int .u64 i95), (.int .u64 i96), (.int .u64 i97), (.int .i64 i98), (.int .i64 i99), (.int .u64 i100), (.int .u32 i101), (.slice p102 n103 c104)])] h78 fun r105 h106 =>
    (((r105 = (.bool true) ∧
    (∃ i107 : Int, ∃ s108 : ByteArray, ∃ b109 : Bool, ∃ i110 : Int, ∃ i111 : Int, ∃ i112 : Int, ∃ i113 : Int, ∃ i114 : Int, ∃ i115 : Int, ∃ i116 : Int, ∃ (p117 : Option Addr) (n118 c119 : Nat), ldN h106 h44.next 0 11 = some ([(.int .u64 i107), (.string s108), (.bool b109), (.int .u64 i110), (.int .u64 i111), (.int .u64 i112), (.int .i64 i113), (.int .i64 i114), (.int .u64 i115), (.int .u32 i116), (.slice p117 n118 c119)] : List Value) ∧
    (∃ i120 : Int, ∃ s121 : ByteArray, ∃ b122 : Bool, ∃ i123 : Int, ∃ i124 : Int, ∃ i125 : Int, ∃ i126 : Int, ∃ i127 : Int, ∃ i128 : Int, ∃ i129 : Int, ∃ (p130 : Option Addr) (n131 c132 : Nat), ldN h106 h62.next 0 11 = some ([(.int .u64 i120), (.string s121), (.bool b122), (.int .u64 i123), (.int .u64 i124), (.int .u64 i125), (.int .i64 i126), (.int .i64 i127), (.int .u64 i128), (.int .u32 i129), (.slice p130 n131 c132)] : List Value) ∧
    (Wf Try.prog K 27 [(.agg #[(.int .u64 i107), (.string s108), (.bool b109), (.int .u64 i110), (.int .u64 i111), (.int .u64 i112), (.int .i64 i113), (.int .i64 i114), (.int .u64 i115), (.int .u32 i116), (.slice p117 n118 c119)]), (.agg #[(.int .u64 i120), (.string s121), (.bool b122), (.int .u64 i123), (.int .u64 i124), (.int .u64 i125), (.int .i64 i126), (.int .i64 i127), (.int .u64 i128), (.int .u32 i129), (.slice p130 n131 c132)])] h106 fun r133 h134 =>
    (((r133 = (.bool true) ∧
    (((i58 : Int) = i76 → Wf Try.prog K 20 [(.slice p6 n7 c8), (.int .u64 ia1)] h134 fun r135 h136 =>
    (∃ s137 : ByteArray, r135 = (.string s137) ∧
    (Wf Try.prog K 28 [(.slice pa0 na0 ca0), (.int .u64 ia1)] h136 fun r138 h139 =>
    (∃ s140 : ByteArray, r138 = (.string s140) ∧
    ((s137 = s140 → Wf Try.prog K 29 [(.slice pa0 na0 ca0), (.int .u64 ia1)] h139 fun r141 h142 =>
    (∃ (p143 : Option Addr) (n144 c145 : Nat), ∃ (p146 : Option Addr) (n147 c148 : Nat), r141 = (.tuple #[(.slice p143 n144 c145), (.slice p146 n147 c148)]) ∧
    (Wf Try.prog K 30 [(.slice pa0 na0 ca0), (.int .u64 ia1)] h142 fun r149 h150 =>
    (∃ (p151 : Option Addr) (n152 c153 : Nat), ∃ i154 : Int, r149 = (.tuple #[(.slice p151 n152 c153), (.int .u64 i154)]) ∧
    (Wf Try.prog K 21 [(.slice p6 n7 c8), (.int .u64 ia1)] h150 fun r155 h156 =>
    (∃ i157 : Int, r155 = (.int .u64 i157) ∧
    (Wf Try.prog K 31 [(.slice pa0 na0 ca0), (.int .u64 ia1)] h156 fun r158 h159 =>
    (∃ i160 : Int, r158 = (.int .u64 i160) ∧
    (((i157 : Int) = i160 → Wf Try.prog K 16 [(.slice p6 n7 c8), (.int .u64 ia1)] h159 fun r161 h162 =>
    (∃ (p163 : Option Addr) (n164 c165 : Nat), r161 = (.slice p163 n164 c165) ∧
    (Wf Try.prog K 32 [(.slice p163 n164 c165), (.slice p146 n147 c148)] h162 fun r166 h167 =>
    (((r166 = (.bool true) ∧
    (Wf Try.prog K 22 [(.slice p6 n7 c8), (.int .u64 ia1)] h167 fun r168 h169 =>
    (∃ (p170 : Option Addr) (n171 c172 : Nat), r168 = (.slice p170 n171 c172) ∧
    (Wf Try.prog K 32 [(.slice p170 n171 c172), (.slice p151 n152 c153)] h169 fun r173 h174 =>
    (((r173 = (.bool true) ∧
    (Wf Try.prog K 18 [(.slice p6 n7 c8), (.int .u64 ia1)] h174 fun r175 h176 =>
    (∃ i177 : Int, r175 = (.int .u64 i177) ∧
    (((i177 : Int) = i154 → Wf Try.prog K 19 [(.slice p6 n7 c8), (.int .u64 ia1)] h176 fun r178 h179 =>
    (∃ i180 : Int, r178 = (.int .u64 i180) ∧
    (Wf Try.prog K 33 [(.slice pa0 na0 ca0), (.int .u64 ia1)] h179 fun r181 h182 =>
    (∃ i183 : Int, r181 = (.int .u64 i183) ∧
    (((i180 : Int) = i183 → Wf Try.prog K 34 [(.slice p6 n7 c8), (.slice pa0 na0 ca0)] h182 fun r184 h185 =>
    (((r184 = (.bool true) ∧
    (Q (.bool true) h185)) ∨ (r184 = (.bool false) ∧
    (Q (.bool false) h185))))) ∧
    (¬ (i180 : Int) = i183 → Q (.bool false) h182)))))) ∧
    (¬ (i177 : Int) = i154 → Q (.bool false) h176))))) ∨ (r173 = (.bool false) ∧
    (Q (.bool false) h174)))))))) ∨ (r166 = (.bool false) ∧
    (Q (.bool false) h167))))))) ∧
    (¬ (i157 : Int) = i160 → Q (.bool false) h159)))))))))) ∧
    (¬ s137 = s140 → Q (.bool false) h139)))))) ∧
    (¬ (i58 : Int) = i76 → Q (.bool false) h134))) ∨ (r133 = (.bool false) ∧
    (Q (.bool false) h134)))))))) ∨ (r105 = (.bool false) ∧
    (Q (.bool false) h106))))))))))))))) ∨ (r26 = (.tuple #[(.agg #[(.int .u64 i28), (.string s29), (.bool b30), (.int .u64 i31), (.int .u64 i32), (.int .u64 i33), (.int .i64 i34), (.int .i64 i35), (.int .u64 i36), (.int .u32 i37), (.slice p38 n39 c40)]), (.bool false)]) ∧
    (∀ h186 : AH, h186 = h27.alloc (.cells ([(.int .u64 0), (.string (ByteArray.mk #[])), (.bool false), (.int .u64 0), (.int .u64 0), (.int .u64 0), (.int .i64 0), (.int .i64 0), (.int .u64 0), (.int .u32 0), (.slice none 0 0)] : List Value) 28 false) →
    (List.length ([(.int .u64 i28), (.string s29), (.bool b30), (.int .u64 i31), (.int .u64 i32), (.int .u64 i33), (.int .i64 i34), (.int .i64 i35), (.int .u64 i36), (.int .u32 i37), (.slice p38 n39 c40)] : List Value) = 11) ∧ ∃ h187 : AH, stN h186 h27.next 0 ([(.int .u64 i28), (.string s29), (.bool b30), (.int .u64 i31), (.int .u64 i32), (.int .u64 i33), (.int .i64 i34), (.int .i64 i35), (.int .u64 i36), (.int .u32 i37), (.slice p38 n39 c40)] : List Value) = some h187 ∧
    (Wf Try.prog K 11 [(.slice p6 n7 c8), (.string sa2)] h187 fun r188 h189 =>
    (∃ i190 : Int, ∃ s191 : ByteArray, ∃ b192 : Bool, ∃ i193 : Int, ∃ i194 : Int, ∃ i195 : Int, ∃ i196 : Int, ∃ i197 : Int, ∃ i198 : Int, ∃ i199 : Int, ∃ (p200 : Option Addr) (n201 c202 : Nat), ∃ i203 : Int, r188 = (.tuple #[(.agg #[(.int .u64 i190), (.string s191), (.bool b192), (.int .u64 i193), (.int .u64 i194), (.int .u64 i195), (.int .i64 i196), (.int .i64 i197), (.int .u64 i198), (.int .u32 i199), (.slice p200 n201 c202)]), (.int .i64 i203)]) ∧
    (∀ h204 : AH, h204 = h189.alloc (.cells ([(.int .u64 0), (.string (ByteArray.mk #[])), (.bool false), (.int .u64 0), (.int .u64 0), (.int .u64 0), (.int .i64 0), (.int .i64 0), (.int .u64 0), (.int .u32 0), (.slice none 0 0)] : List Value) 28 false) →
    (List.length ([(.int .u64 i190), (.string s191), (.bool b192), (.int .u64 i193), (.int .u64 i194), (.int .u64 i195), (.int .i64 i196), (.int .i64 i197), (.int .u64 i198), (.int .u32 i199), (.slice p200 n201 c202)] : List Value) = 11) ∧ ∃ h205 : AH, stN h204 h189.next 0 ([(.int .u64 i190), (.string s191), (.bool b192), (.int .u64 i193), (.int .u64 i194), (.int .u64 i195), (.int .i64 i196), (.int .i64 i197), (.int .u64 i198), (.int .u32 i199), (.slice p200 n201 c202)] : List Value) = some h205 ∧
    (Wf Try.prog K 26 [(.slice pa0 na0 ca0), (.string sa2)] h205 fun r206 h207 =>
    (∃ i208 : Int, ∃ s209 : ByteArray, ∃ b210 : Bool, ∃ i211 : Int, ∃ i212 : Int, ∃ i213 : Int, ∃ i214 : Int, ∃ i215 : Int, ∃ i216 : Int, ∃ i217 : Int, ∃ (p218 : Option Addr) (n219 c220 : Nat), ∃ i221 : Int, r206 = (.tuple #[(.agg #[(.int .u64 i208), (.string s209), (.bool b210), (.int .u64 i211), (.int .u64 i212), (.int .u64 i213), (.int .i64 i214), (.int .i64 i215), (.int .u64 i216), (.int .u32 i217), (.slice p218 n219 c220)]), (.int .i64 i221)]) ∧
    (∀ h222 : AH, h222 = h207.alloc (.cells ([(.int .u64 0), (.string (ByteArray.mk #[])), (.bool false), (.int .u64 0), (.int .u64 0), (.int .u64 0), (.int .i64 0), (.int .i64 0), (.int .u64 0), (.int .u32 0), (.slice none 0 0)] : List Value) 28 false) →
    (List.length ([(.int .u64 i208), (.string s209), (.bool b210), (.int .u64 i211), (.int .u64 i212), (.int .u64 i213), (.int .i64 i214), (.int .i64 i215), (.int .u64 i216), (.int .u32 i217), (.slice p218 n219 c220)] : List Value) = 11) ∧ ∃ h223 : AH, stN h222 h207.next 0 ([(.int .u64 i208), (.string s209), (.bool b210), (.int .u64 i211), (.int .u64 i212), (.int .u64 i213), (.int .i64 i214), (.int .i64 i215), (.int .u64 i216), (.int .u32 i217), (.slice p218 n219 c220)] : List Value) = some h223 ∧
    (∃ i224 : Int, ∃ s225 : ByteArray, ∃ b226 : Bool, ∃ i227 : Int, ∃ i228 : Int, ∃ i229 : Int, ∃ i230 : Int, ∃ i231 : Int, ∃ i232 : Int, ∃ i233 : Int, ∃ (p234 : Option Addr) (n235 c236 : Nat), ldN h223 h10.next 0 11 = some ([(.int .u64 i224), (.string s225), (.bool b226), (.int .u64 i227), (.int .u64 i228), (.int .u64 i229), (.int .i64 i230), (.int .i64 i231), (.int .u64 i232), (.int .u32 i233), (.slice p234 n235 c236)] : List Value) ∧
    (∃ i237 : Int, ∃ s238 : ByteArray, ∃ b239 : Bool, ∃ i240 : Int, ∃ i241 : Int, ∃ i242 : Int, ∃ i243 : Int, ∃ i244 : Int, ∃ i245 : Int, ∃ i246 : Int, ∃ (p247 : Option Addr) (n248 c249 : Nat), ldN h223 h27.next 0 11 = some ([(.int .u64 i237), (.string s238), (.bool b239), (.int .u64 i240), (.int .u64 i241), (.int .u64 i242), (.int .i64 i243), (.int .i64 i244), (.int .u64 i245), (.int .u32 i246), (.slice p247 n248 c249)] : List Value) ∧
    (Wf Try.prog K 27 [(.agg #[(.int .u64 i224), (.string s225), (.bool b226), (.int .u64 i227), (.int .u64 i228), (.int .u64 i229), (.int .i64 i230), (.int .i64 i231), (.int .u64 i232), (.int .u32 i233), (.slice p234 n235 c236)]), (.agg #[(.int .u64 i237), (.string s238), (.bool b239), (.int .u64 i240), (.int .u64 i241), (.int .u64 i242), (.int .i64 i243), (.int .i64 i244), (.int .u64 i245), (.int .u32 i246), (.slice p247 n248 c249)])] h223 fun r250 h251 =>
    (((r250 = (.bool true) ∧
    (Q (.bool false) h251)) ∨ (r250 = (.bool false) ∧
    (Q (.bool false) h251)))))))))))))))))))) ∨ (r9 = (.tuple #[(.agg #[(.int .u64 i11), (.string s12), (.bool b13), (.int .u64 i14), (.int .u64 i15), (.int .u64 i16), (.int .i64 i17), (.int .i64 i18), (.int .u64 i19), (.int .u32 i20), (.slice p21 n22 c23)]), (.bool false)]) ∧
    (∀ h252 : AH, h252 = h10.alloc (.cells ([(.int .u64 0), (.string (ByteArray.mk #[])), (.bool false), (.int .u64 0), (.int .u64 0), (.int .u64 0), (.int .i64 0), (.int .i64 0), (.int .u64 0), (.int .u32 0), (.slice none 0 0)] : List Value) 28 false) →
    (List.length ([(.int .u64 i11), (.string s12), (.bool b13), (.int .u64 i14), (.int .u64 i15), (.int .u64 i16), (.int .i64 i17), (.int .i64 i18), (.int .u64 i19), (.int .u32 i20), (.slice p21 n22 c23)] : List Value) = 11) ∧ ∃ h253 : AH, stN h252 h10.next 0 ([(.int .u64 i11), (.string s12), (.bool b13), (.int .u64 i14), (.int .u64 i15), (.int .u64 i16), (.int .i64 i17), (.int .i64 i18), (.int .u64 i19), (.int .u32 i20), (.slice p21 n22 c23)] : List Value) = some h253 ∧
    (Wf Try.prog K 25 [(.slice pa0 na0 ca0), (.int .u64 ia1)] h253 fun r254 h255 =>
    (∃ i256 : Int, ∃ s257 : ByteArray, ∃ b258 : Bool, ∃ i259 : Int, ∃ i260 : Int, ∃ i261 : Int, ∃ i262 : Int, ∃ i263 : Int, ∃ i264 : Int, ∃ i265 : Int, ∃ (p266 : Option Addr) (n267 c268 : Nat), ((r254 = (.tuple #[(.agg #[(.int .u64 i256), (.string s257), (.bool b258), (.int .u64 i259), (.int .u64 i260), (.int .u64 i261), (.int .i64 i262), (.int .i64 i263), (.int .u64 i264), (.int .u32 i265), (.slice p266 n267 c268)]), (.bool true)]) ∧
    (∀ h269 : AH, h269 = h255.alloc (.cells ([(.int .u64 0), (.string (ByteArray.mk #[])), (.bool false), (.int .u64 0), (.int .u64 0), (.int .u64 0), (.int .i64 0), (.int .i64 0), (.int .u64 0), (.int .u32 0), (.slice none 0 0)] : List Value) 28 false) →
    (List.length ([(.int .u64 i256), (.string s257), (.bool b258), (.int .u64 i259), (.int .u64 i260), (.int .u64 i261), (.int .i64 i262), (.int .i64 i263), (.int .u64 i264), (.int .u32 i265), (.slice p266 n267 c268)] : List Value) = 11) ∧ ∃ h270 : AH, stN h269 h255.next 0 ([(.int .u64 i256), (.string s257), (.bool b258), (.int .u64 i259), (.int .u64 i260), (.int .u64 i261), (.int .i64 i262), (.int .i64 i263), (.int .u64 i264), (.int .u32 i265), (.slice p266 n267 c268)] : List Value) = some h270 ∧
    (Wf Try.prog K 11 [(.slice p6 n7 c8), (.string sa2)] h270 fun r271 h272 =>
    (∃ i273 : Int, ∃ s274 : ByteArray, ∃ b275 : Bool, ∃ i276 : Int, ∃ i277 : Int, ∃ i278 : Int, ∃ i279 : Int, ∃ i280 : Int, ∃ i281 : Int, ∃ i282 : Int, ∃ (p283 : Option Addr) (n284 c285 : Nat), ∃ i286 : Int, r271 = (.tuple #[(.agg #[(.int .u64 i273), (.string s274), (.bool b275), (.int .u64 i276), (.int .u64 i277), (.int .u64 i278), (.int .i64 i279), (.int .i64 i280), (.int .u64 i281), (.int .u32 i282), (.slice p283 n284 c285)]), (.int .i64 i286)]) ∧
    (∀ h287 : AH, h287 = h272.alloc (.cells ([(.int .u64 0), (.string (ByteArray.mk #[])), (.bool false), (.int .u64 0), (.int .u64 0), (.int .u64 0), (.int .i64 0), (.int .i64 0), (.int .u64 0), (.int .u32 0), (.slice none 0 0)] : List Value) 28 false) →
    (List.length ([(.int .u64 i273), (.string s274), (.bool b275), (.int .u64 i276), (.int .u64 i277), (.int .u64 i278), (.int .i64 i279), (.int .i64 i280), (.int .u64 i281), (.int .u32 i282), (.slice p283 n284 c285)] : List Value) = 11) ∧ ∃ h288 : AH, stN h287 h272.next 0 ([(.int .u64 i273), (.string s274), (.bool b275), (.int .u64 i276), (.int .u64 i277), (.int .u64 i278), (.int .i64 i279), (.int .i64 i280), (.int .u64 i281), (.int .u32 i282), (.slice p283 n284 c285)] : List Value) = some h288 ∧
    (Wf Try.prog K 26 [(.slice pa0 na0 ca0), (.string sa2)] h288 fun r289 h290 =>
    (∃ i291 : Int, ∃ s292 : ByteArray, ∃ b293 : Bool, ∃ i294 : Int, ∃ i295 : Int, ∃ i296 : Int, ∃ i297 : Int, ∃ i298 : Int, ∃ i299 : Int, ∃ i300 : Int, ∃ (p301 : Option Addr) (n302 c303 : Nat), ∃ i304 : Int, r289 = (.tuple #[(.agg #[(.int .u64 i291), (.string s292), (.bool b293), (.int .u64 i294), (.int .u64 i295), (.int .u64 i296), (.int .i64 i297), (.int .i64 i298), (.int .u64 i299), (.int .u32 i300), (.slice p301 n302 c303)]), (.int .i64 i304)]) ∧
    (∀ h305 : AH, h305 = h290.alloc (.cells ([(.int .u64 0), (.string (ByteArray.mk #[])), (.bool false), (.int .u64 0), (.int .u64 0), (.int .u64 0), (.int .i64 0), (.int .i64 0), (.int .u64 0), (.int .u32 0), (.slice none 0 0)] : List Value) 28 false) →
    (List.length ([(.int .u64 i291), (.string s292), (.bool b293), (.int .u64 i294), (.int .u64 i295), (.int .u64 i296), (.int .i64 i297), (.int .i64 i298), (.int .u64 i299), (.int .u32 i300), (.slice p301 n302 c303)] : List Value) = 11) ∧ ∃ h306 : AH, stN h305 h290.next 0 ([(.int .u64 i291), (.string s292), (.bool b293), (.int .u64 i294), (.int .u64 i295), (.int .u64 i296), (.int .i64 i297), (.int .i64 i298), (.int .u64 i299), (.int .u32 i300), (.slice p301 n302 c303)] : List Value) = some h306 ∧
    (∃ i307 : Int, ∃ s308 : ByteArray, ∃ b309 : Bool, ∃ i310 : Int, ∃ i311 : Int, ∃ i312 : Int, ∃ i313 : Int, ∃ i314 : Int, ∃ i315 : Int, ∃ i316 : Int, ∃ (p317 : Option Addr) (n318 c319 : Nat), ldN h306 h10.next 0 11 = some ([(.int .u64 i307), (.string s308), (.bool b309), (.int .u64 i310), (.int .u64 i311), (.int .u64 i312), (.int .i64 i313), (.int .i64 i314), (.int .u64 i315), (.int .u32 i316), (.slice p317 n318 c319)] : List Value) ∧
    (∃ i320 : Int, ∃ s321 : ByteArray, ∃ b322 : Bool, ∃ i323 : Int, ∃ i324 : Int, ∃ i325 : Int, ∃ i326 : Int, ∃ i327 : Int, ∃ i328 : Int, ∃ i329 : Int, ∃ (p330 : Option Addr) (n331 c332 : Nat), ldN h306 h255.next 0 11 = some ([(.int .u64 i320), (.string s321), (.bool b322), (.int .u64 i323), (.int .u64 i324), (.int .u64 i325), (.int .i64 i326), (.int .i64 i327), (.int .u64 i328), (.int .u32 i329), (.slice p330 n331 c332)] : List Value) ∧
    (Wf Try.prog K 27 [(.agg #[(.int .u64 i307), (.string s308), (.bool b309), (.int .u64 i310), (.int .u64 i311), (.int .u64 i312), (.int .i64 i313), (.int .i64 i314), (.int .u64 i315), (.int .u32 i316), (.slice p317 n318 c319)]), (.agg #[(.int .u64 i320), (.string s321), (.bool b322), (.int .u64 i323), (.int .u64 i324), (.int .u64 i325), (.int .i64 i326), (.int .i64 i327), (.int .u64 i328), (.int .u32 i329), (.slice p330 n331 c332)])] h306 fun r333 h334 =>
    (((r333 = (.bool true) ∧
    (Q (.bool false) h334)) ∨ (r333 = (.bool false) ∧
    (Q (.bool false) h334))))))))))))))) ∨ (r254 = (.tuple #[(.agg #[(.int .u64 i256), (.string s257), (.bool b258), (.int .u64 i259), (.int .u64 i260), (.int .u64 i261), (.int .i64 i262), (.int .i64 i263), (.int .u64 i264), (.int .u32 i265), (.slice p266 n267 c268)]), (.bool false)]) ∧
    (∀ h335 : AH, h335 = h255.alloc (.cells ([(.int .u64 0), (.string (ByteArray.mk #[])), (.bool false), (.int .u64 0), (.int .u64 0), (.int .u64 0), (.int .i64 0), (.int .i64 0), (.int .u64 0), (.int .u32 0), (.slice none 0 0)] : List Value) 28 false) →
    (List.length ([(.int .u64 i256), (.string s257), (.bool b258), (.int .u64 i259), (.int .u64 i260), (.int .u64 i261), (.int .i64 i262), (.int .i64 i263), (.int .u64 i264), (.int .u32 i265), (.slice p266 n267 c268)] : List Value) = 11) ∧ ∃ h336 : AH, stN h335 h255.next 0 ([(.int .u64 i256), (.string s257), (.bool b258), (.int .u64 i259), (.int .u64 i260), (.int .u64 i261), (.int .i64 i262), (.int .i64 i263), (.int .u64 i264), (.int .u32 i265), (.slice p266 n267 c268)] : List Value) = some h336 ∧
    (Wf Try.prog K 11 [(.slice p6 n7 c8), (.string sa2)] h336 fun r337 h338 =>
    (∃ i339 : Int, ∃ s340 : ByteArray, ∃ b341 : Bool, ∃ i342 : Int, ∃ i343 : Int, ∃ i344 : Int, ∃ i345 : Int, ∃ i346 : Int, ∃ i347 : Int, ∃ i348 : Int, ∃ (p349 : Option Addr) (n350 c351 : Nat), ∃ i352 : Int, r337 = (.tuple #[(.agg #[(.int .u64 i339), (.string s340), (.bool b341), (.int .u64 i342), (.int .u64 i343), (.int .u64 i344), (.int .i64 i345), (.int .i64 i346), (.int .u64 i347), (.int .u32 i348), (.slice p349 n350 c351)]), (.int .i64 i352)]) ∧
    (∀ h353 : AH, h353 = h338.alloc (.cells ([(.int .u64 0), (.string (ByteArray.mk #[])), (.bool false), (.int .u64 0), (.int .u64 0), (.int .u64 0), (.int .i64 0), (.int .i64 0), (.int .u64 0), (.int .u32 0), (.slice none 0 0)] : List Value) 28 false) →
    (List.length ([(.int .u64 i339), (.string s340), (.bool b341), (.int .u64 i342), (.int .u64 i343), (.int .u64 i344), (.int .i64 i345), (.int .i64 i346), (.int .u64 i347), (.int .u32 i348), (.slice p349 n350 c351)] : List Value) = 11) ∧ ∃ h354 : AH, stN h353 h338.next 0 ([(.int .u64 i339), (.string s340), (.bool b341), (.int .u64 i342), (.int .u64 i343), (.int .u64 i344), (.int .i64 i345), (.int .i64 i346), (.int .u64 i347), (.int .u32 i348), (.slice p349 n350 c351)] : List Value) = some h354 ∧
    (Wf Try.prog K 26 [(.slice pa0 na0 ca0), (.string sa2)] h354 fun r355 h356 =>
    (∃ i357 : Int, ∃ s358 : ByteArray, ∃ b359 : Bool, ∃ i360 : Int, ∃ i361 : Int, ∃ i362 : Int, ∃ i363 : Int, ∃ i364 : Int, ∃ i365 : Int, ∃ i366 : Int, ∃ (p367 : Option Addr) (n368 c369 : Nat), ∃ i370 : Int, r355 = (.tuple #[(.agg #[(.int .u64 i357), (.string s358), (.bool b359), (.int .u64 i360), (.int .u64 i361), (.int .u64 i362), (.int .i64 i363), (.int .i64 i364), (.int .u64 i365), (.int .u32 i366), (.slice p367 n368 c369)]), (.int .i64 i370)]) ∧
    (∀ h371 : AH, h371 = h356.alloc (.cells ([(.int .u64 0), (.string (ByteArray.mk #[])), (.bool false), (.int .u64 0), (.int .u64 0), (.int .u64 0), (.int .i64 0), (.int .i64 0), (.int .u64 0), (.int .u32 0), (.slice none 0 0)] : List Value) 28 false) →
    (List.length ([(.int .u64 i357), (.string s358), (.bool b359), (.int .u64 i360), (.int .u64 i361), (.int .u64 i362), (.int .i64 i363), (.int .i64 i364), (.int .u64 i365), (.int .u32 i366), (.slice p367 n368 c369)] : List Value) = 11) ∧ ∃ h372 : AH, stN h371 h356.next 0 ([(.int .u64 i357), (.string s358), (.bool b359), (.int .u64 i360), (.int .u64 i361), (.int .u64 i362), (.int .i64 i363), (.int .i64 i364), (.int .u64 i365), (.int .u32 i366), (.slice p367 n368 c369)] : List Value) = some h372 ∧
    (∃ i373 : Int, ∃ s374 : ByteArray, ∃ b375 : Bool, ∃ i376 : Int, ∃ i377 : Int, ∃ i378 : Int, ∃ i379 : Int, ∃ i380 : Int, ∃ i381 : Int, ∃ i382 : Int, ∃ (p383 : Option Addr) (n384 c385 : Nat), ldN h372 h10.next 0 11 = some ([(.int .u64 i373), (.string s374), (.bool b375), (.int .u64 i376), (.int .u64 i377), (.int .u64 i378), (.int .i64 i379), (.int .i64 i380), (.int .u64 i381), (.int .u32 i382), (.slice p383 n384 c385)] : List Value) ∧
    (∃ i386 : Int, ∃ s387 : ByteArray, ∃ b388 : Bool, ∃ i389 : Int, ∃ i390 : Int, ∃ i391 : Int, ∃ i392 : Int, ∃ i393 : Int, ∃ i394 : Int, ∃ i395 : Int, ∃ (p396 : Option Addr) (n397 c398 : Nat), ldN h372 h255.next 0 11 = some ([(.int .u64 i386), (.string s387), (.bool b388), (.int .u64 i389), (.int .u64 i390), (.int .u64 i391), (.int .i64 i392), (.int .i64 i393), (.int .u64 i394), (.int .u32 i395), (.slice p396 n397 c398)] : List Value) ∧
    (Wf Try.prog K 27 [(.agg #[(.int .u64 i373), (.string s374), (.bool b375), (.int .u64 i376), (.int .u64 i377), (.int .u64 i378), (.int .i64 i379), (.int .i64 i380), (.int .u64 i381), (.int .u32 i382), (.slice p383 n384 c385)]), (.agg #[(.int .u64 i386), (.string s387), (.bool b388), (.int .u64 i389), (.int .u64 i390), (.int .u64 i391), (.int .i64 i392), (.int .i64 i393), (.int .u64 i394), (.int .u32 i395), (.slice p396 n397 c398)])] h372 fun r399 h400 =>
    (((r399 = (.bool true) ∧
    (∃ i401 : Int, ∃ s402 : ByteArray, ∃ b403 : Bool, ∃ i404 : Int, ∃ i405 : Int, ∃ i406 : Int, ∃ i407 : Int, ∃ i408 : Int, ∃ i409 : Int, ∃ i410 : Int, ∃ (p411 : Option Addr) (n412 c413 : Nat), ldN h400 h338.next 0 11 = some ([(.int .u64 i401), (.string s402), (.bool b403), (.int .u64 i404), (.int .u64 i405), (.int .u64 i406), (.int .i64 i407), (.int .i64 i408), (.int .u64 i409), (.int .u32 i410), (.slice p411 n412 c413)] : List Value) ∧
    (∃ i414 : Int, ∃ s415 : ByteArray, ∃ b416 : Bool, ∃ i417 : Int, ∃ i418 : Int, ∃ i419 : Int, ∃ i420 : Int, ∃ i421 : Int, ∃ i422 : Int, ∃ i423 : Int, ∃ (p424 : Option Addr) (n425 c426 : Nat), ldN h400 h356.next 0 11 = some ([(.int .u64 i414), (.string s415), (.bool b416), (.int .u64 i417), (.int .u64 i418), (.int .u64 i419), (.int .i64 i420), (.int .i64 i421), (.int .u64 i422), (.int .u32 i423), (.slice p424 n425 c426)] : List Value) ∧
    (Wf Try.prog K 27 [(.agg #[(.int .u64 i401), (.string s402), (.bool b403), (.int .u64 i404), (.int .u64 i405), (.int .u64 i406), (.int .i64 i407), (.int .i64 i408), (.int .u64 i409), (.int .u32 i410), (.slice p411 n412 c413)]), (.agg #[(.int .u64 i414), (.string s415), (.bool b416), (.int .u64 i417), (.int .u64 i418), (.int .u64 i419), (.int .i64 i420), (.int .i64 i421), (.int .u64 i422), (.int .u32 i423), (.slice p424 n425 c426)])] h400 fun r427 h428 =>
    (((r427 = (.bool true) ∧
    (((i352 : Int) = i370 → Wf Try.prog K 20 [(.slice p6 n7 c8), (.int .u64 ia1)] h428 fun r429 h430 =>
    (∃ s431 : ByteArray, r429 = (.string s431) ∧
    (Wf Try.prog K 28 [(.slice pa0 na0 ca0), (.int .u64 ia1)] h430 fun r432 h433 =>
    (∃ s434 : ByteArray, r432 = (.string s434) ∧
    ((s431 = s434 → Wf Try.prog K 29 [(.slice pa0 na0 ca0), (.int .u64 ia1)] h433 fun r435 h436 =>
    (∃ (p437 : Option Addr) (n438 c439 : Nat), ∃ (p440 : Option Addr) (n441 c442 : Nat), r435 = (.tuple #[(.slice p437 n438 c439), (.slice p440 n441 c442)]) ∧
    (Wf Try.prog K 30 [(.slice pa0 na0 ca0), (.int .u64 ia1)] h436 fun r443 h444 =>
    (∃ (p445 : Option Addr) (n446 c447 : Nat), ∃ i448 : Int, r443 = (.tuple #[(.slice p445 n446 c447), (.int .u64 i448)]) ∧
    (Wf Try.prog K 21 [(.slice p6 n7 c8), (.int .u64 ia1)] h444 fun r449 h450 =>
    (∃ i451 : Int, r449 = (.int .u64 i451) ∧
    (Wf Try.prog K 31 [(.slice pa0 na0 ca0), (.int .u64 ia1)] h450 fun r452 h453 =>
    (∃ i454 : Int, r452 = (.int .u64 i454) ∧
    (((i451 : Int) = i454 → Wf Try.prog K 16 [(.slice p6 n7 c8), (.int .u64 ia1)] h453 fun r455 h456 =>
    (∃ (p457 : Option Addr) (n458 c459 : Nat), r455 = (.slice p457 n458 c459) ∧
    (Wf Try.prog K 32 [(.slice p457 n458 c459), (.slice p440 n441 c442)] h456 fun r460 h461 =>
    (((r460 = (.bool true) ∧
    (Wf Try.prog K 22 [(.slice p6 n7 c8), (.int .u64 ia1)] h461 fun r462 h463 =>
    (∃ (p464 : Option Addr) (n465 c466 : Nat), r462 = (.slice p464 n465 c466) ∧
    (Wf Try.prog K 32 [(.slice p464 n465 c466), (.slice p445 n446 c447)] h463 fun r467 h468 =>
    (((r467 = (.bool true) ∧
    (Wf Try.prog K 18 [(.slice p6 n7 c8), (.int .u64 ia1)] h468 fun r469 h470 =>
    (∃ i471 : Int, r469 = (.int .u64 i471) ∧
    (((i471 : Int) = i448 → Wf Try.prog K 19 [(.slice p6 n7 c8), (.int .u64 ia1)] h470 fun r472 h473 =>
    (∃ i474 : Int, r472 = (.int .u64 i474) ∧
    (Wf Try.prog K 33 [(.slice pa0 na0 ca0), (.int .u64 ia1)] h473 fun r475 h476 =>
    (∃ i477 : Int, r475 = (.int .u64 i477) ∧
    (((i474 : Int) = i477 → Wf Try.prog K 34 [(.slice p6 n7 c8), (.slice pa0 na0 ca0)] h476 fun r478 h479 =>
    (((r478 = (.bool true) ∧
    (Q (.bool true) h479)) ∨ (r478 = (.bool false) ∧
    (Q (.bool false) h479))))) ∧
    (¬ (i474 : Int) = i477 → Q (.bool false) h476)))))) ∧
    (¬ (i471 : Int) = i448 → Q (.bool false) h470))))) ∨ (r467 = (.bool false) ∧
    (Q (.bool false) h468)))))))) ∨ (r460 = (.bool false) ∧
    (Q (.bool false) h461))))))) ∧
    (¬ (i451 : Int) = i454 → Q (.bool false) h453)))))))))) ∧
    (¬ s431 = s434 → Q (.bool false) h433)))))) ∧
    (¬ (i352 : Int) = i370 → Q (.bool false) h428))) ∨ (r427 = (.bool false) ∧
    (Q (.bool false) h428)))))))) ∨ (r399 = (.bool false) ∧
    (Q (.bool false) h400)))))))))))))))))))))))))) ∨ (r2 = (.bool false) ∧
    (Q (.bool true) h3))))))) ∨ (r0 = (.bool false) ∧
    (Q (.bool false) h1))))) :
    Wf Try.prog K 8 [(.slice pa0 na0 ca0), (.int .u64 ia1), (.string sa2)] h Q :=
  vcF_sound (hs := []) hk (Eq.mpr (by kernel_rfl) H)
end Go.Am
