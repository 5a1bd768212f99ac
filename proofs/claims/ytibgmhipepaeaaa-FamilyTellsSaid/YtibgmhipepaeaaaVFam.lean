/-
  WEAKEST CONDITIONS of some functions of this program, printed by a program.
-/
import Derived.Test.YtibgmhipepaeaaaAmG
import Derived.Test.YtibgmhipepaeaaaRows
set_option linter.unusedVariables false
set_option maxRecDepth 100000
namespace Go.Am
open Go.Proofs
theorem vc_family_place {K : Xs} (hk : K 54 = none) (pa0 : Option Addr) (na0 ca0 : Nat) (ia1 : Int) (h : AH) (Q : Value → AH → Prop) (H :
    ∃ I0 : Int → Nat → AH → Prop, (∃ n, I0 0 n h) ∧
    ∀ (k1 : Nat) (h2 : AH) (i4 : Int), I0 i4 k1 h2 →
    ((i4 : Int) < ((na0 : Nat) : Int) → derefP pa0 fun b5 o6 => (((0 : Int) ≤ i4) ∧ ((i4 : Int) < ((na0 : Nat) : Int)) ∧
    (∃ i7 : Int, ld1 h2 b5 (o6 + Int.toNat i4 * 11) = some (.int .u64 i7) ∧
    (((i7 : Int) = ia1 → Q (.int .i64 i4) h2) ∧
    (¬ (i7 : Int) = ia1 → ∀ i8 : Int, i8 = IntKind.wrap .i64 (i4 + 1) → ∃ j3, j3 < k1 ∧ I0 i8 j3 h2))))) ∧
    (¬ (i4 : Int) < ((na0 : Nat) : Int) → Q (.int .i64 (-1)) h2)) :
    Wf Try.prog K 54 [(.slice pa0 na0 ca0), (.int .u64 ia1)] h Q :=
  vcF_sound (hs := [(2, [(8, .int .i64 0)])]) hk (Eq.mpr (by kernel_rfl) H)
theorem vc_family_Floor {K : Xs} (hk : K 19 = none) (pa0 : Option Addr) (na0 ca0 : Nat) (ia1 : Int) (h : AH) (Q : Value → AH → Prop) (H :
    Wf Try.prog K 54 [(.slice pa0 na0 ca0), (.int .u64 ia1)] h fun r0 h1 =>
    (∃ i2 : Int, r0 = (.int .i64 i2) ∧
    (((i2 : Int) < 0 → Q (.int .u64 0) h1) ∧
    (¬ (i2 : Int) < 0 → derefP pa0 fun b3 o4 => (((0 : Int) ≤ i2) ∧ ((i2 : Int) < ((na0 : Nat) : Int)) ∧
    (∃ i5 : Int, ld1 h1 b3 ((o4 + Int.toNat i2 * 11) + 4) = some (.int .u64 i5) ∧
    (((i5 : Int) = 0 → Q (.int .u64 0) h1) ∧
    (¬ (i5 : Int) = 0 → derefP pa0 fun b6 o7 => (((0 : Int) ≤ i2) ∧ ((i2 : Int) < ((na0 : Nat) : Int)) ∧
    (∃ i8 : Int, ld1 h1 b6 ((o7 + Int.toNat i2 * 11) + 4) = some (.int .u64 i8) ∧
    (Wf Try.prog K 54 [(.slice pa0 na0 ca0), (.int .u64 i8)] h1 fun r9 h10 =>
    (∃ i11 : Int, r9 = (.int .i64 i11) ∧
    (((i11 : Int) < 0 → Q (.int .u64 0) h10) ∧
    (¬ (i11 : Int) < 0 → derefP pa0 fun b12 o13 => (((0 : Int) ≤ i11) ∧ ((i11 : Int) < ((na0 : Nat) : Int)) ∧
    (∃ i14 : Int, ld1 h10 b12 ((o13 + Int.toNat i11 * 11) + 5) = some (.int .u64 i14) ∧
    (Q (.int .u64 i14) h10))))))))))))))))) :
    Wf Try.prog K 19 [(.slice pa0 na0 ca0), (.int .u64 ia1)] h Q :=
  vcF_sound (hs := []) hk (Eq.mpr (by kernel_rfl) H)
theorem vc_family_callOf {K : Xs} (hk : K 45 = none) (pa0 : Option Addr) (h : AH) (Q : Value → AH → Prop) (H :
    ∀ h0 : AH, h0 = h.alloc (.cells ([(.int .u64 0), (.string (ByteArray.mk #[]))] : List Value) 73 false) →
    derefP pa0 fun b1 o2 => (((ld1 h0 b1 (o2 + 2) = some (.bool true) ∧
    (derefP pa0 fun b3 o4 => (∃ i5 : Int, ld1 h0 b3 (o4 + 3) = some (.int .u64 i5) ∧
    (derefP pa0 fun b6 o7 => (∃ s8 : ByteArray, ld1 h0 b6 (o7 + 1) = some (.string s8) ∧
    ((List.length ([(.int .u64 i5), (.string s8)] : List Value) = 2) ∧ ∃ h9 : AH, stN h0 h.next 0 ([(.int .u64 i5), (.string s8)] : List Value) = some h9 ∧
    (∃ i10 : Int, ∃ s11 : ByteArray, ldN h9 h.next 0 2 = some ([(.int .u64 i10), (.string s11)] : List Value) ∧
    (Q (.agg #[(.int .u64 i10), (.string s11)]) h9)))))))) ∨ (ld1 h0 b1 (o2 + 2) = some (.bool false) ∧
    (derefP pa0 fun b12 o13 => (∃ s14 : ByteArray, ld1 h0 b12 (o13 + 1) = some (.string s14) ∧
    ((List.length ([(.int .u64 0), (.string s14)] : List Value) = 2) ∧ ∃ h15 : AH, stN h0 h.next 0 ([(.int .u64 0), (.string s14)] : List Value) = some h15 ∧
    (∃ i16 : Int, ∃ s17 : ByteArray, ldN h15 h.next 0 2 = some ([(.int .u64 i16), (.string s17)] : List Value) ∧
    (Q (.agg #[(.int .u64 i16), (.string s17)]) h15))))))))) :
    Wf Try.prog K 45 [(.pointer pa0)] h Q :=
  vcF_sound (hs := []) hk (Eq.mpr (by kernel_rfl) H)
theorem vc_family_elderRight {K : Xs} (hk : K 46 = none) (pa0 : Option Addr) (na0 ca0 : Nat) (pa1 : Option Addr) (h : AH) (Q : Value → AH → Prop) (H :
    derefP pa1 fun b0 o1 => (∃ i2 : Int, ld1 h b0 (o1 + 4) = some (.int .u64 i2) ∧
    (((i2 : Int) = 0 → derefP pa1 fun b3 o4 => (∃ (p5 : Option Addr) (n6 c7 : Nat), ld1 h b3 (o4 + 10) = some (.slice p5 n6 c7) ∧
    (∃ I8 : Int → Nat → AH → Prop, (∃ n, I8 0 n h) ∧
    ∀ (k9 : Nat) (h10 : AH) (i12 : Int), I8 i12 k9 h10 →
    ((i12 : Int) < ((n6 : Nat) : Int) → derefP p5 fun b13 o14 => (((0 : Int) ≤ i12) ∧ ((i12 : Int) < ((n6 : Nat) : Int)) ∧
    (∃ i15 : Int, ∃ i16 : Int, ∃ i17 : Int, ldN h10 b13 (o14 + Int.toNat i12 * 3) 3 = some ([(.int .i64 i15), (.int .u64 i16), (.int .u32 i17)] : List Value) ∧
    (∀ h18 : AH, h18 = h10.alloc (.cells ([(.int .i64 0), (.int .u64 0), (.int .u32 0)] : List Value) 25 false) →
    (List.length ([(.int .i64 i15), (.int .u64 i16), (.int .u32 i17)] : List Value) = 3) ∧ ∃ h19 : AH, stN h18 h10.next 0 ([(.int .i64 i15), (.int .u64 i16), (.int .u32 i17)] : List Value) = some h19 ∧
    (∃ i20 : Int, ld1 h19 h10.next 1 = some (.int .u64 i20) ∧
    (((0 : Int) < i20 → Q (.bool false) h19) ∧
    (¬ (0 : Int) < i20 → ∀ i21 : Int, i21 = IntKind.wrap .i64 (i12 + 1) → ∃ j11, j11 < k9 ∧ I8 i21 j11 h19))))))) ∧
    (¬ (i12 : Int) < ((n6 : Nat) : Int) → Q (.bool true) h10)))) ∧
    (¬ (i2 : Int) = 0 → derefP pa1 fun b22 o23 => (∃ i24 : Int, ld1 h b22 (o23 + 4) = some (.int .u64 i24) ∧
    (Wf Try.prog K 54 [(.slice pa0 na0 ca0), (.int .u64 i24)] h fun r25 h26 =>
    (∃ i27 : Int, r25 = (.int .i64 i27) ∧
    (((i27 : Int) < 0 → Q (.bool false) h26) ∧
    (¬ (i27 : Int) < 0 → derefP pa0 fun b28 o29 => (((0 : Int) ≤ i27) ∧ ((i27 : Int) < ((na0 : Nat) : Int)) ∧
    (((ld1 h26 b28 ((o29 + Int.toNat i27 * 11) + 2) = some (.bool true) ∧
    (derefP pa0 fun b30 o31 => (((0 : Int) ≤ i27) ∧ ((i27 : Int) < ((na0 : Nat) : Int)) ∧
    (∃ i32 : Int, ld1 h26 b30 ((o31 + Int.toNat i27 * 11) + 5) = some (.int .u64 i32) ∧
    (derefP pa1 fun b33 o34 => (((ld1 h26 b33 (o34 + 2) = some (.bool true) ∧
    (derefP pa1 fun b35 o36 => (∃ i37 : Int, ld1 h26 b35 (o36 + 5) = some (.int .u64 i37) ∧
    (((i37 : Int) ≤ i32 → Q (.bool false) h26) ∧
    (¬ (i37 : Int) ≤ i32 → derefP pa1 fun b38 o39 => (∃ (p40 : Option Addr) (n41 c42 : Nat), ld1 h26 b38 (o39 + 10) = some (.slice p40 n41 c42) ∧
    (∃ I43 : Int → Nat → AH → Prop, (∃ n, I43 0 n h26) ∧
    ∀ (k44 : Nat) (h45 : AH) (i47 : Int), I43 i47 k44 h45 →
    ((i47 : Int) < ((n41 : Nat) : Int) → derefP p40 fun b48 o49 => (((0 : Int) ≤ i47) ∧ ((i47 : Int) < ((n41 : Nat) : Int)) ∧
    (∃ i50 : Int, ∃ i51 : Int, ∃ i52 : Int, ldN h45 b48 (o49 + Int.toNat i47 * 3) 3 = some ([(.int .i64 i50), (.int .u64 i51), (.int .u32 i52)] : List Value) ∧
    (∀ h53 : AH, h53 = h45.alloc (.cells ([(.int .i64 0), (.int .u64 0), (.int .u32 0)] : List Value) 25 false) →
    (List.length ([(.int .i64 i50), (.int .u64 i51), (.int .u32 i52)] : List Value) = 3) ∧ ∃ h54 : AH, stN h53 h45.next 0 ([(.int .i64 i50), (.int .u64 i51), (.int .u32 i52)] : List Value) = some h54 ∧
    (∃ i55 : Int, ld1 h54 h45.next 1 = some (.int .u64 i55) ∧
    (((i32 : Int) < i55 → Q (.bool false) h54) ∧
    (¬ (i32 : Int) < i55 → ∀ i56 : Int, i56 = IntKind.wrap .i64 (i47 + 1) → ∃ j46, j46 < k44 ∧ I43 i56 j46 h54))))))) ∧
    (¬ (i47 : Int) < ((n41 : Nat) : Int) → Q (.bool true) h45)))))))) ∨ (ld1 h26 b33 (o34 + 2) = some (.bool false) ∧
    (derefP pa1 fun b57 o58 => (∃ (p59 : Option Addr) (n60 c61 : Nat), ld1 h26 b57 (o58 + 10) = some (.slice p59 n60 c61) ∧
    (∃ I62 : Int → Nat → AH → Prop, (∃ n, I62 0 n h26) ∧
    ∀ (k63 : Nat) (h64 : AH) (i66 : Int), I62 i66 k63 h64 →
    ((i66 : Int) < ((n60 : Nat) : Int) → derefP p59 fun b67 o68 => (((0 : Int) ≤ i66) ∧ ((i66 : Int) < ((n60 : Nat) : Int)) ∧
    (∃ i69 : Int, ∃ i70 : Int, ∃ i71 : Int, ldN h64 b67 (o68 + Int.toNat i66 * 3) 3 = some ([(.int .i64 i69), (.int .u64 i70), (.int .u32 i71)] : List Value) ∧
    (∀ h72 : AH, h72 = h64.alloc (.cells ([(.int .i64 0), (.int .u64 0), (.int .u32 0)] : List Value) 25 false) →
    (List.length ([(.int .i64 i69), (.int .u64 i70), (.int .u32 i71)] : List Value) = 3) ∧ ∃ h73 : AH, stN h72 h64.next 0 ([(.int .i64 i69), (.int .u64 i70), (.int .u32 i71)] : List Value) = some h73 ∧
    (∃ i74 : Int, ld1 h73 h64.next 1 = some (.int .u64 i74) ∧
    (((i32 : Int) < i74 → Q (.bool false) h73) ∧
    (¬ (i32 : Int) < i74 → ∀ i75 : Int, i75 = IntKind.wrap .i64 (i66 + 1) → ∃ j65, j65 < k63 ∧ I62 i75 j65 h73))))))) ∧
    (¬ (i66 : Int) < ((n60 : Nat) : Int) → Q (.bool true) h64)))))))))))) ∨ (ld1 h26 b28 ((o29 + Int.toNat i27 * 11) + 2) = some (.bool false) ∧
    (Q (.bool false) h26)))))))))))))) :
    Wf Try.prog K 46 [(.slice pa0 na0 ca0), (.pointer pa1)] h Q :=
  vcF_sound (hs := [(10, [(52, .int .i64 0)])]) hk (Eq.mpr (by kernel_rfl) H)
theorem vc_family_ownerRight {K : Xs} (hk : K 47 = none) (pa0 : Option Addr) (na0 ca0 : Nat) (pa1 : Option Addr) (h : AH) (Q : Value → AH → Prop) (H :
    ∀ h0 : AH, h0 = h.alloc (.cells ([(.slice pa0 na0 ca0)] : List Value) 34 false) →
    ∀ h1 : AH, h1 = h0.alloc (.cells ([(.pointer pa1)] : List Value) 77 false) →
    ∃ p2 : Option Addr, ld1 h1 h0.next 0 = some (.pointer p2) ∧
    (derefP p2 fun b3 o4 => (((ld1 h1 b3 (o4 + 2) = some (.bool true) ∧
    (∃ (p5 : Option Addr) (n6 c7 : Nat), ld1 h1 h.next 0 = some (.slice p5 n6 c7) ∧
    (∃ p8 : Option Addr, ld1 h1 h0.next 0 = some (.pointer p8) ∧
    (derefP p8 fun b9 o10 => (∃ i11 : Int, ld1 h1 b9 (o10 + 3) = some (.int .u64 i11) ∧
    (Wf Try.prog K 54 [(.slice p5 n6 c7), (.int .u64 i11)] h1 fun r12 h13 =>
    (∃ i14 : Int, r12 = (.int .i64 i14) ∧
    (((i14 : Int) < 0 → Q (.bool false) h13) ∧
    (¬ (i14 : Int) < 0 → ∃ (p15 : Option Addr) (n16 c17 : Nat), ld1 h13 h.next 0 = some (.slice p15 n16 c17) ∧
    (derefP p15 fun b18 o19 => (((0 : Int) ≤ i14) ∧ ((i14 : Int) < ((n16 : Nat) : Int)) ∧
    (((ld1 h13 b18 ((o19 + Int.toNat i14 * 11) + 2) = some (.bool true) ∧
    (Q (.bool false) h13)) ∨ (ld1 h13 b18 ((o19 + Int.toNat i14 * 11) + 2) = some (.bool false) ∧
    (∀ h20 : AH, h20 = h13.alloc (.cells ([(.int .i64 0)] : List Value) 3 false) →
    ∃ h21 : AH, st1 h20 h13.next 0 (.int .i64 0) = some h21 ∧
    (∃ (p22 : Option Addr) (n23 c24 : Nat), ld1 h21 h.next 0 = some (.slice p22 n23 c24) ∧
    (∃ p25 : Option Addr, ld1 h21 h0.next 0 = some (.pointer p25) ∧
    (derefP p25 fun b26 o27 => (∃ i28 : Int, ld1 h21 b26 o27 = some (.int .u64 i28) ∧
    (Wf Try.prog K 55 [(.slice p22 n23 c24), (.int .u64 i28)] h21 fun r29 h30 =>
    (∃ (g31 : FuncId) (cap32 : List Value), r29 = (.func (.func g31) #[] cap32.toArray) ∧
    (∃ (J33 : Nat → AH → Prop) (D34 : AX → AH → Prop) (N35 : Nat) (item36 : Nat → List Value) (G39 B40 : AH → AH → Prop),
    (K g31 = none ∧ ([34] : List Nat) = [34]) ∧
    (∀ i, i < N35 → ∃ i42 : Int, item36 i = [(.int .i64 i42)]) ∧
    (∀ h1 : AH, h1.next = h30.next + 1 → (∀ c, c ≠ h30.next → h1.get c = h30.get c) → J33 0 h1) ∧
    (∀ i h1 h2, J33 i h1 → Near h30.next h1 h2 → J33 i h2) ∧
    (∀ x h1 h2, D34 x h1 → Near h30.next h1 h2 → D34 x h2) ∧
    (∀ i h1 h2, J33 i h1 → G39 h1 h2 → J33 i h2) ∧ (∀ x h1 h2, D34 x h1 → G39 h1 h2 → D34 x h2) ∧ (∀ h1 h2, G39 h1 h2 → h2.get h30.next = h1.get h30.next) ∧
    (∀ (k37 : Nat) (h38 : AH), k37 < N35 → J33 k37 h38 → (∃ L, h38.get h30.next = some (.loop L)) → ∀ (i41 : Int), item36 k37 = [(.int .i64 i41)] →
    AX.normal = AX.normal ∧ (h38.get h30.next = h38.get h30.next) ∧ ∀ h43 : AH, Near h30.next h38 h43 → (∃ L, h43.get h30.next = some (.loop L)) →
    ∃ (p44 : Option Addr) (n45 c46 : Nat), ld1 h43 h.next 0 = some (.slice p44 n45 c46) ∧
    (derefP p44 fun b47 o48 => (((0 : Int) ≤ i41) ∧ ((i41 : Int) < ((n45 : Nat) : Int)) ∧
    (∃ i49 : Int, ld1 h43 b47 ((o48 + Int.toNat i41 * 11) + 3) = some (.int .u64 i49) ∧
    (∃ p50 : Option Addr, ld1 h43 h0.next 0 = some (.pointer p50) ∧
    (derefP p50 fun b51 o52 => (∃ i53 : Int, ld1 h43 b51 (o52 + 3) = some (.int .u64 i53) ∧
    (((i49 : Int) = i53 → ∃ i54 : Int, ld1 h43 h13.next 0 = some (.int .i64 i54) ∧
    (∀ i55 : Int, i55 = IntKind.wrap .i64 (i54 + 1) → ∃ h56 : AH, st1 h43 h13.next 0 (.int .i64 i55) = some h56 ∧
    ((h56.get h30.next = h43.get h30.next ∧ J33 (k37 + 1) h56 ∧ ∀ h5, Near h30.next h56 h5 → B40 h38 h5)))) ∧
    (¬ (i49 : Int) = i53 → (h43.get h30.next = h43.get h30.next ∧ J33 (k37 + 1) h43 ∧ ∀ h5, Near h30.next h43 h5 → B40 h38 h5)))))))))) ∧
    (∀ (JJ57 : Nat → AH → Prop) (DD58 : AH → Prop), (∀ i h1, JJ57 i h1 → J33 i h1) → (∀ i h1 h2, JJ57 i h1 → G39 h1 h2 → JJ57 i h2) → (∀ h1 h2, DD58 h1 → G39 h1 h2 → DD58 h2) →
    (∀ (k60 : Nat) (h59 : AH), k60 < N35 → JJ57 k60 h59 → Wy Try.prog K h30.next (item36 k60) h59 fun r62 h63 => ((r62 = .bool true ∧ JJ57 (k60 + 1) h63) ∨ (r62 = .bool false ∧ DD58 h63)) ∧ B40 h59 h63) →
    ∀ h61 : AH, JJ57 0 h61 → Wf Try.prog K g31 ([(Value.func (Fn.yield h30.next) #[] #[])] ++ cap32) h61 fun _ h64 => JJ57 N35 h64 ∨ DD58 h64) ∧
    (∀ h65 : AH, J33 N35 h65 → ∃ i66 : Int, ld1 (h65.del h30.next) h13.next 0 = some (.int .i64 i66) ∧
    (((i66 : Int) = 1 → Q (.bool true) (h65.del h30.next)) ∧
    (¬ (i66 : Int) = 1 → Q (.bool false) (h65.del h30.next)))) ∧
    (∀ (x68 : AX) (h67 : AH), x68 ≠ .normal → D34 x68 h67 → memAX x68 [] = true))))))))))))))))))))))) ∨ (ld1 h1 b3 (o4 + 2) = some (.bool false) ∧
    (Q (.bool true) h1)))))) :
    Wf Try.prog K 47 [(.slice pa0 na0 ca0), (.pointer pa1)] h Q :=
  vcF_sound (hs := [(8, [(34, .int .i64 0)])]) hk (Eq.mpr (by kernel_rfl) H)
theorem vc_family_hanging {K : Xs} (hk : K 55 = none) (pa0 : Option Addr) (na0 ca0 : Nat) (ia1 : Int) (h : AH) (Q : Value → AH → Prop) (H :
    ∀ h0 : AH, h0 = h.alloc (.cells ([(.slice pa0 na0 ca0)] : List Value) 34 false) →
    ∀ h1 : AH, h1 = h0.alloc (.cells ([(.int .u64 ia1)] : List Value) 22 false) →
    Q (.func (.func 80) #[] #[(.pointer (some ⟨h.next, 0, none⟩)), (.pointer (some ⟨h0.next, 0, none⟩))]) h1) :
    Wf Try.prog K 55 [(.slice pa0 na0 ca0), (.int .u64 ia1)] h Q :=
  vcF_sound (hs := []) hk (Eq.mpr (by kernel_rfl) H)
theorem vc_family_hanging_1 {K : Xs} (hk : K 80 = none) (ya0 : Nat) (pf0 : Option Addr) (pf1 : Option Addr) (h : AH) (Q : Value → AH → Prop) (H :
    derefP pf0 fun b0 o1 => (∃ (p2 : Option Addr) (n3 c4 : Nat), ld1 h b0 o1 = some (.slice p2 n3 c4) ∧
    (∃ I5 : Int → Nat → AH → Prop, (∃ n, I5 0 n h) ∧
    ∀ (k6 : Nat) (h7 : AH) (i9 : Int), I5 i9 k6 h7 →
    ((i9 : Int) < ((n3 : Nat) : Int) → derefP pf0 fun b10 o11 => (∃ (p12 : Option Addr) (n13 c14 : Nat), ld1 h7 b10 o11 = some (.slice p12 n13 c14) ∧
    (derefP p12 fun b15 o16 => (((0 : Int) ≤ i9) ∧ ((i9 : Int) < ((n13 : Nat) : Int)) ∧
    (∃ i17 : Int, ld1 h7 b15 ((o16 + Int.toNat i9 * 11) + 4) = some (.int .u64 i17) ∧
    (derefP pf1 fun b18 o19 => (∃ i20 : Int, ld1 h7 b18 o19 = some (.int .u64 i20) ∧
    (((i17 : Int) = i20 → Wy Try.prog K ya0 [(.int .i64 i9)] h7 fun r21 h22 => ∃ b23 : Bool, r21 = .bool b23 ∧
    (cond (!b23) (Q (.tuple #[]) h22)
    (∀ i24 : Int, i24 = IntKind.wrap .i64 (i9 + 1) → ∃ j8, j8 < k6 ∧ I5 i24 j8 h22))) ∧
    (¬ (i17 : Int) = i20 → ∀ i25 : Int, i25 = IntKind.wrap .i64 (i9 + 1) → ∃ j8, j8 < k6 ∧ I5 i25 j8 h7))))))))) ∧
    (¬ (i9 : Int) < ((n3 : Nat) : Int) → Q (.tuple #[]) h7)))) :
    Wf Try.prog K 80 [(Value.func (Fn.yield ya0) #[] #[]), (.pointer pf0), (.pointer pf1)] h Q :=
  vcF_sound (hs := [(1, [(7, .int .i64 0)])]) hk (Eq.mpr (by kernel_rfl) H)
theorem vc_family_Right {K : Xs} (hk : K 13 = none) (ia0 : Int) (pa1 : Option Addr) (na1 ca1 : Nat) (h : AH) (Q : Value → AH → Prop) (H :
    ((281474976710655 : Int) < ia0 → Q (.bool false) h) ∧
    (¬ (281474976710655 : Int) < ia0 → ((32 : Int) < ((na1 : Nat) : Int) → Q (.bool false) h) ∧
    (¬ (32 : Int) < ((na1 : Nat) : Int) → ∀ h0 : AH, h0 = h.alloc (.map [] 0) →
    ∃ I1 : Int → Int → Nat → AH → Prop, (∃ n, I1 0 0 n h0) ∧
    ∀ (k2 : Nat) (h3 : AH) (i5 : Int) (i6 : Int), I1 i5 i6 k2 h3 →
    ((i6 : Int) < ((na1 : Nat) : Int) → derefP pa1 fun b7 o8 => (((0 : Int) ≤ i6) ∧ ((i6 : Int) < ((na1 : Nat) : Int)) ∧
    (∃ i9 : Int, ∃ s10 : ByteArray, ∃ b11 : Bool, ∃ i12 : Int, ∃ i13 : Int, ∃ i14 : Int, ∃ i15 : Int, ∃ i16 : Int, ∃ i17 : Int, ∃ i18 : Int, ∃ (p19 : Option Addr) (n20 c21 : Nat), ldN h3 b7 (o8 + Int.toNat i6 * 11) 11 = some ([(.int .u64 i9), (.string s10), (.bool b11), (.int .u64 i12), (.int .u64 i13), (.int .u64 i14), (.int .i64 i15), (.int .i64 i16), (.int .u64 i17), (.int .u32 i18), (.slice p19 n20 c21)] : List Value) ∧
    (Wf Try.prog K 44 [(.agg #[(.int .u64 i9), (.string s10), (.bool b11), (.int .u64 i12), (.int .u64 i13), (.int .u64 i14), (.int .i64 i15), (.int .i64 i16), (.int .u64 i17), (.int .u32 i18), (.slice p19 n20 c21)])] h3 fun r22 h23 =>
    (((r22 = (.bool true) ∧
    (∃ i24 : Int, ld1 h23 b7 (o8 + Int.toNat i6 * 11) = some (.int .u64 i24) ∧
    (((i24 : Int) ≤ i5 → Q (.bool false) h23) ∧
    (¬ (i24 : Int) ≤ i5 → ∃ i25 : Int, ld1 h23 b7 (o8 + Int.toNat i6 * 11) = some (.int .u64 i25) ∧
    (((ia0 : Int) ≤ i25 → Q (.bool false) h23) ∧
    (¬ (ia0 : Int) ≤ i25 → ∃ i26 : Int, ld1 h23 b7 (o8 + Int.toNat i6 * 11) = some (.int .u64 i26) ∧
    (Wf Try.prog K 45 [(.pointer (some ⟨b7, (o8 + Int.toNat i6 * 11), none⟩))] h23 fun r27 h28 =>
    (∃ i29 : Int, ∃ s30 : ByteArray, r27 = (.agg #[(.int .u64 i29), (.string s30)]) ∧
    (∀ h31 : AH, h31 = h28.alloc (.cells ([(.int .u64 0), (.string (ByteArray.mk #[]))] : List Value) 73 false) →
    (List.length ([(.int .u64 i29), (.string s30)] : List Value) = 2) ∧ ∃ h32 : AH, stN h31 h28.next 0 ([(.int .u64 i29), (.string s30)] : List Value) = some h32 ∧
    (∃ i33 : Int, ∃ s34 : ByteArray, ldN h32 h28.next 0 2 = some ([(.int .u64 i33), (.string s34)] : List Value) ∧
    (∃ i35 : Int, ∃ b36 : Bool, aLookup Try.prog h32 76 (.map (some h.next)) (.agg #[(.int .u64 i33), (.string s34)]) true = some (.tuple #[(.int .i64 i35), (.bool b36)]) ∧
    (cond b36 (Q (.bool false) h32)
    (∃ i37 : Int, ∃ s38 : ByteArray, ldN h32 h28.next 0 2 = some ([(.int .u64 i37), (.string s38)] : List Value) ∧
    (∃ h39 : AH, aMapUpdate Try.prog h32 76 (.map (some h.next)) (.agg #[(.int .u64 i37), (.string s38)]) (.int .i64 i6) = some h39 ∧
    (∀ i40 : Int, i40 = IntKind.wrap .i64 (i6 + 1) → ∃ j4, j4 < k2 ∧ I1 i26 i40 j4 h39))))))))))))))) ∨ (r22 = (.bool false) ∧
    (Q (.bool false) h23)))))))) ∧
    (¬ (i6 : Int) < ((na1 : Nat) : Int) → ∃ I41 : Int → Nat → AH → Prop, (∃ n, I41 0 n h3) ∧
    ∀ (k42 : Nat) (h43 : AH) (i45 : Int), I41 i45 k42 h43 →
    ((i45 : Int) < ((na1 : Nat) : Int) → derefP pa1 fun b46 o47 => (((0 : Int) ≤ i45) ∧ ((i45 : Int) < ((na1 : Nat) : Int)) ∧
    (Wf Try.prog K 46 [(.slice pa1 na1 ca1), (.pointer (some ⟨b46, (o47 + Int.toNat i45 * 11), none⟩))] h43 fun r48 h49 =>
    (((r48 = (.bool true) ∧
    (derefP pa1 fun b50 o51 => (((0 : Int) ≤ i45) ∧ ((i45 : Int) < ((na1 : Nat) : Int)) ∧
    (Wf Try.prog K 47 [(.slice pa1 na1 ca1), (.pointer (some ⟨b50, (o51 + Int.toNat i45 * 11), none⟩))] h49 fun r52 h53 =>
    (((r52 = (.bool true) ∧
    (∀ i54 : Int, i54 = IntKind.wrap .i64 (i45 + 1) → ∃ j44, j44 < k42 ∧ I41 i54 j44 h53)) ∨ (r52 = (.bool false) ∧
    (Q (.bool false) h53)))))))) ∨ (r48 = (.bool false) ∧
    (Q (.bool false) h49))))))) ∧
    (¬ (i45 : Int) < ((na1 : Nat) : Int) → Q (.bool true) h43))))) :
    Wf Try.prog K 13 [(.int .u64 ia0), (.slice pa1 na1 ca1)] h Q :=
  vcF_sound (hs := [(6, [(6, .int .u64 0), (23, .int .i64 0)]), (19, [(69, .int .i64 0)])]) hk (Eq.mpr (by kernel_rfl) H)
theorem vc_family_Find {K : Xs} (hk : K 17 = none) (pa0 : Option Addr) (na0 ca0 : Nat) (ia1 : Int) (h : AH) (Q : Value → AH → Prop) (H :
    ∀ h0 : AH, h0 = h.alloc (.cells ([(.int .u64 0), (.string (ByteArray.mk #[])), (.bool false), (.int .u64 0), (.int .u64 0), (.int .u64 0), (.int .i64 0), (.int .i64 0), (.int .u64 0), (.int .u32 0), (.slice none 0 0)] : List Value) 28 false) →
    Wf Try.prog K 54 [(.slice pa0 na0 ca0), (.int .u64 ia1)] h0 fun r1 h2 =>
    (∃ i3 : Int, r1 = (.int .i64 i3) ∧
    (((i3 : Int) < 0 → (List.length ([(.int .u64 0), (.string (ByteArray.mk #[])), (.bool false), (.int .u64 0), (.int .u64 0), (.int .u64 0), (.int .i64 0), (.int .i64 0), (.int .u64 0), (.int .u32 0), (.slice none 0 0)] : List Value) = 11) ∧ ∃ h4 : AH, stN h2 h.next 0 ([(.int .u64 0), (.string (ByteArray.mk #[])), (.bool false), (.int .u64 0), (.int .u64 0), (.int .u64 0), (.int .i64 0), (.int .i64 0), (.int .u64 0), (.int .u32 0), (.slice none 0 0)] : List Value) = some h4 ∧
    (∃ i5 : Int, ∃ s6 : ByteArray, ∃ b7 : Bool, ∃ i8 : Int, ∃ i9 : Int, ∃ i10 : Int, ∃ i11 : Int, ∃ i12 : Int, ∃ i13 : Int, ∃ i14 : Int, ∃ (p15 : Option Addr) (n16 c17 : Nat), ldN h4 h.next 0 11 = some ([(.int .u64 i5), (.string s6), (.bool b7), (.int .u64 i8), (.int .u64 i9), (.int .u64 i10), (.int .i64 i11), (.int .i64 i12), (.int .u64 i13), (.int .u32 i14), (.slice p15 n16 c17)] : List Value) ∧
    (Q (.tuple #[(.agg #[(.int .u64 i5), (.string s6), (.bool b7), (.int .u64 i8), (.int .u64 i9), (.int .u64 i10), (.int .i64 i11), (.int .i64 i12), (.int .u64 i13), (.int .u32 i14), (.slice p15 n16 c17)]), (.bool false)]) h4))) ∧
    (¬ (i3 : Int) < 0 → derefP pa0 fun b18 o19 => (((0 : Int) ≤ i3) ∧ ((i3 : Int) < ((na0 : Nat) : Int)) ∧
    (∃ i20 : Int, ∃ s21 : ByteArray, ∃ b22 : Bool, ∃ i23 : Int, ∃ i24 : Int, ∃ i25 : Int, ∃ i26 : Int, ∃ i27 : Int, ∃ i28 : Int, ∃ i29 : Int, ∃ (p30 : Option Addr) (n31 c32 : Nat), ldN h2 b18 (o19 + Int.toNat i3 * 11) 11 = some ([(.int .u64 i20), (.string s21), (.bool b22), (.int .u64 i23), (.int .u64 i24), (.int .u64 i25), (.int .i64 i26), (.int .i64 i27), (.int .u64 i28), (.int .u32 i29), (.slice p30 n31 c32)] : List Value) ∧
    (Wf Try.prog K 42 [(.agg #[(.int .u64 i20), (.string s21), (.bool b22), (.int .u64 i23), (.int .u64 i24), (.int .u64 i25), (.int .i64 i26), (.int .i64 i27), (.int .u64 i28), (.int .u32 i29), (.slice p30 n31 c32)])] h2 fun r33 h34 =>
    (∃ i35 : Int, ∃ s36 : ByteArray, ∃ b37 : Bool, ∃ i38 : Int, ∃ i39 : Int, ∃ i40 : Int, ∃ i41 : Int, ∃ i42 : Int, ∃ i43 : Int, ∃ i44 : Int, ∃ (p45 : Option Addr) (n46 c47 : Nat), r33 = (.agg #[(.int .u64 i35), (.string s36), (.bool b37), (.int .u64 i38), (.int .u64 i39), (.int .u64 i40), (.int .i64 i41), (.int .i64 i42), (.int .u64 i43), (.int .u32 i44), (.slice p45 n46 c47)]) ∧
    ((List.length ([(.int .u64 i35), (.string s36), (.bool b37), (.int .u64 i38), (.int .u64 i39), (.int .u64 i40), (.int .i64 i41), (.int .i64 i42), (.int .u64 i43), (.int .u32 i44), (.slice p45 n46 c47)] : List Value) = 11) ∧ ∃ h48 : AH, stN h34 h.next 0 ([(.int .u64 i35), (.string s36), (.bool b37), (.int .u64 i38), (.int .u64 i39), (.int .u64 i40), (.int .i64 i41), (.int .i64 i42), (.int .u64 i43), (.int .u32 i44), (.slice p45 n46 c47)] : List Value) = some h48 ∧
    (∃ i49 : Int, ∃ s50 : ByteArray, ∃ b51 : Bool, ∃ i52 : Int, ∃ i53 : Int, ∃ i54 : Int, ∃ i55 : Int, ∃ i56 : Int, ∃ i57 : Int, ∃ i58 : Int, ∃ (p59 : Option Addr) (n60 c61 : Nat), ldN h48 h.next 0 11 = some ([(.int .u64 i49), (.string s50), (.bool b51), (.int .u64 i52), (.int .u64 i53), (.int .u64 i54), (.int .i64 i55), (.int .i64 i56), (.int .u64 i57), (.int .u32 i58), (.slice p59 n60 c61)] : List Value) ∧
    (Q (.tuple #[(.agg #[(.int .u64 i49), (.string s50), (.bool b51), (.int .u64 i52), (.int .u64 i53), (.int .u64 i54), (.int .i64 i55), (.int .i64 i56), (.int .u64 i57), (.int .u32 i58), (.slice p59 n60 c61)]), (.bool true)]) h48))))))))))) :
    Wf Try.prog K 17 [(.slice pa0 na0 ca0), (.int .u64 ia1)] h Q :=
  vcF_sound (hs := []) hk (Eq.mpr (by kernel_rfl) H)
theorem vc_family_Clones {K : Xs} (hk : K 16 = none) (pa0 : Option Addr) (na0 ca0 : Nat) (ia1 : Int) (h : AH) (Q : Value → AH → Prop) (H :
    ∀ h0 : AH, h0 = h.alloc (.cells ([(.slice pa0 na0 ca0)] : List Value) 34 false) →
    ∃ (p1 : Option Addr) (n2 c3 : Nat), ld1 h0 h.next 0 = some (.slice p1 n2 c3) ∧
    (Wf Try.prog K 54 [(.slice p1 n2 c3), (.int .u64 ia1)] h0 fun r4 h5 =>
    (∃ i6 : Int, r4 = (.int .i64 i6) ∧
    (∀ h7 : AH, h7 = h5.alloc (.cells ([(.int .i64 0)] : List Value) 3 false) →
    ∃ h8 : AH, st1 h7 h5.next 0 (.int .i64 i6) = some h8 ∧
    (∃ i9 : Int, ld1 h8 h5.next 0 = some (.int .i64 i9) ∧
    (((i9 : Int) < 0 → Q (.slice none 0 0) h8) ∧
    (¬ (i9 : Int) < 0 → ∃ (p10 : Option Addr) (n11 c12 : Nat), ld1 h8 h.next 0 = some (.slice p10 n11 c12) ∧
    (∃ i13 : Int, ld1 h8 h5.next 0 = some (.int .i64 i13) ∧
    (derefP p10 fun b14 o15 => (((0 : Int) ≤ i13) ∧ ((i13 : Int) < ((n11 : Nat) : Int)) ∧
    (((ld1 h8 b14 ((o15 + Int.toNat i13 * 11) + 2) = some (.bool true) ∧
    (∀ h16 : AH, h16 = h8.alloc (.cells ([(.slice none 0 0)] : List Value) 39 false) →
    ∃ (p17 : Option Addr) (n18 c19 : Nat), ld1 h16 h.next 0 = some (.slice p17 n18 c19) ∧
    (Wf Try.prog K 55 [(.slice p17 n18 c19), (.int .u64 ia1)] h16 fun r20 h21 =>
    (∃ (g22 : FuncId) (cap23 : List Value), r20 = (.func (.func g22) #[] cap23.toArray) ∧
    (∃ (J24 : Nat → AH → Prop) (D25 : AX → AH → Prop) (N26 : Nat) (item27 : Nat → List Value) (G30 B31 : AH → AH → Prop),
    (K g22 = none ∧ ([24] : List Nat) = [24]) ∧
    (∀ i, i < N26 → ∃ i33 : Int, item27 i = [(.int .i64 i33)]) ∧
    (∀ h1 : AH, h1.next = h21.next + 1 → (∀ c, c ≠ h21.next → h1.get c = h21.get c) → J24 0 h1) ∧
    (∀ i h1 h2, J24 i h1 → Near h21.next h1 h2 → J24 i h2) ∧
    (∀ x h1 h2, D25 x h1 → Near h21.next h1 h2 → D25 x h2) ∧
    (∀ i h1 h2, J24 i h1 → G30 h1 h2 → J24 i h2) ∧ (∀ x h1 h2, D25 x h1 → G30 h1 h2 → D25 x h2) ∧ (∀ h1 h2, G30 h1 h2 → h2.get h21.next = h1.get h21.next) ∧
    (∀ (k28 : Nat) (h29 : AH), k28 < N26 → J24 k28 h29 → (∃ L, h29.get h21.next = some (.loop L)) → ∀ (i32 : Int), item27 k28 = [(.int .i64 i32)] →
    AX.normal = AX.normal ∧ (h29.get h21.next = h29.get h21.next) ∧ ∀ h34 : AH, Near h21.next h29 h34 → (∃ L, h34.get h21.next = some (.loop L)) →
    ∃ (p35 : Option Addr) (n36 c37 : Nat), ld1 h34 h.next 0 = some (.slice p35 n36 c37) ∧
    (derefP p35 fun b38 o39 => (((0 : Int) ≤ i32) ∧ ((i32 : Int) < ((n36 : Nat) : Int)) ∧
    (∃ i40 : Int, ld1 h34 b38 ((o39 + Int.toNat i32 * 11) + 3) = some (.int .u64 i40) ∧
    (∃ (p41 : Option Addr) (n42 c43 : Nat), ld1 h34 h.next 0 = some (.slice p41 n42 c43) ∧
    (∃ i44 : Int, ld1 h34 h5.next 0 = some (.int .i64 i44) ∧
    (derefP p41 fun b45 o46 => (((0 : Int) ≤ i44) ∧ ((i44 : Int) < ((n42 : Nat) : Int)) ∧
    (∃ i47 : Int, ld1 h34 b45 ((o46 + Int.toNat i44 * 11) + 3) = some (.int .u64 i47) ∧
    (((i40 : Int) = i47 → (h34.get h21.next = h34.get h21.next ∧ J24 (k28 + 1) h34 ∧ ∀ h5, Near h21.next h34 h5 → B31 h29 h5)) ∧
    (¬ (i40 : Int) = i47 → ∃ (p48 : Option Addr) (n49 c50 : Nat), ld1 h34 h8.next 0 = some (.slice p48 n49 c50) ∧
    (∃ (p51 : Option Addr) (n52 c53 : Nat), ld1 h34 h.next 0 = some (.slice p51 n52 c53) ∧
    (derefP p51 fun b54 o55 => (((0 : Int) ≤ i32) ∧ ((i32 : Int) < ((n52 : Nat) : Int)) ∧
    (∃ i56 : Int, ld1 h34 b54 (o55 + Int.toNat i32 * 11) = some (.int .u64 i56) ∧
    (∀ h57 : AH, h57 = h34.alloc (.cells ([(.int .u64 i56)] : List Value) 22 false) →
    ∃ (p58 : Option Addr) (n59 c60 : Nat) (h61 : AH), aBuiltin Try.prog h57 .append #[39, 39] [(.slice p48 n49 c50), (.slice (some ⟨h34.next, 0, none⟩) 1 1)] = some (.slice p58 n59 c60, h61) ∧
    (∃ h62 : AH, st1 h61 h8.next 0 (.slice p58 n59 c60) = some h62 ∧
    ((h62.get h21.next = h34.get h21.next ∧ J24 (k28 + 1) h62 ∧ ∀ h5, Near h21.next h62 h5 → B31 h29 h5))))))))))))))))))) ∧
    (∀ (JJ63 : Nat → AH → Prop) (DD64 : AH → Prop), (∀ i h1, JJ63 i h1 → J24 i h1) → (∀ i h1 h2, JJ63 i h1 → G30 h1 h2 → JJ63 i h2) → (∀ h1 h2, DD64 h1 → G30 h1 h2 → DD64 h2) →
    (∀ (k66 : Nat) (h65 : AH), k66 < N26 → JJ63 k66 h65 → Wy Try.prog K h21.next (item27 k66) h65 fun r68 h69 => ((r68 = .bool true ∧ JJ63 (k66 + 1) h69) ∨ (r68 = .bool false ∧ DD64 h69)) ∧ B31 h65 h69) →
    ∀ h67 : AH, JJ63 0 h67 → Wf Try.prog K g22 ([(Value.func (Fn.yield h21.next) #[] #[])] ++ cap23) h67 fun _ h70 => JJ63 N26 h70 ∨ DD64 h70) ∧
    (∀ h71 : AH, J24 N26 h71 → ∃ (p72 : Option Addr) (n73 c74 : Nat), ld1 (h71.del h21.next) h8.next 0 = some (.slice p72 n73 c74) ∧
    (Q (.slice p72 n73 c74) (h71.del h21.next))) ∧
    (∀ (x76 : AX) (h75 : AH), x76 ≠ .normal → D25 x76 h75 → memAX x76 [] = true)))))) ∨ (ld1 h8 b14 ((o15 + Int.toNat i13 * 11) + 2) = some (.bool false) ∧
    (Q (.slice none 0 0) h8)))))))))))))) :
    Wf Try.prog K 16 [(.slice pa0 na0 ca0), (.int .u64 ia1)] h Q :=
  vcF_sound (hs := [(6, [(24, .int .i64 0)])]) hk (Eq.mpr (by kernel_rfl) H)
theorem vc_family_way {K : Xs} (hk : K 56 = none) (pa0 : Option Addr) (na0 ca0 : Nat) (ia1 : Int) (h : AH) (Q : Value → AH → Prop) (H :
    Wf Try.prog K 54 [(.slice pa0 na0 ca0), (.int .u64 ia1)] h fun r0 h1 =>
    (∃ i2 : Int, r0 = (.int .i64 i2) ∧
    (((i2 : Int) < 0 → Q (.tuple #[(.slice none 0 0), (.int .u64 0)]) h1) ∧
    (¬ (i2 : Int) < 0 → derefP pa0 fun b3 o4 => (((0 : Int) ≤ i2) ∧ ((i2 : Int) < ((na0 : Nat) : Int)) ∧
    (((ld1 h1 b3 ((o4 + Int.toNat i2 * 11) + 2) = some (.bool true) ∧
    (Q (.tuple #[(.slice none 0 0), (.int .u64 0)]) h1)) ∨ (ld1 h1 b3 ((o4 + Int.toNat i2 * 11) + 2) = some (.bool false) ∧
    (derefP pa0 fun b5 o6 => (((0 : Int) ≤ i2) ∧ ((i2 : Int) < ((na0 : Nat) : Int)) ∧
    (∃ i7 : Int, ld1 h1 b5 ((o6 + Int.toNat i2 * 11) + 4) = some (.int .u64 i7) ∧
    (∃ I8 : Option Addr → Nat → Nat → Int → Nat → AH → Prop, (∃ n, I8 none 0 0 i7 n h1) ∧
    ∀ (k9 : Nat) (h10 : AH) (p12 : Option Addr) (n13 : Nat) (c14 : Nat) (i15 : Int), I8 p12 n13 c14 i15 k9 h10 →
    ((i15 : Int) = 0 → Q (.tuple #[(.slice p12 n13 c14), (.int .u64 i15)]) h10) ∧
    (¬ (i15 : Int) = 0 → ((((n13 : Nat) : Int) : Int) < 32 → Wf Try.prog K 54 [(.slice pa0 na0 ca0), (.int .u64 i15)] h10 fun r16 h17 =>
    (∃ i18 : Int, r16 = (.int .i64 i18) ∧
    (((i18 : Int) < 0 → Q (.tuple #[(.slice p12 n13 c14), (.int .u64 i15)]) h17) ∧
    (¬ (i18 : Int) < 0 → derefP pa0 fun b19 o20 => (((0 : Int) ≤ i18) ∧ ((i18 : Int) < ((na0 : Nat) : Int)) ∧
    (∃ i21 : Int, ld1 h17 b19 ((o20 + Int.toNat i18 * 11) + 3) = some (.int .u64 i21) ∧
    (((i21 : Int) = ia1 → ∀ h22 : AH, h22 = h17.alloc (.cells ([(.int .u64 i15)] : List Value) 22 false) →
    ∃ (p23 : Option Addr) (n24 c25 : Nat) (h26 : AH), aBuiltin Try.prog h22 .append #[39, 39] [(.slice p12 n13 c14), (.slice (some ⟨h17.next, 0, none⟩) 1 1)] = some (.slice p23 n24 c25, h26) ∧
    (derefP pa0 fun b27 o28 => (((0 : Int) ≤ i18) ∧ ((i18 : Int) < ((na0 : Nat) : Int)) ∧
    (∃ i29 : Int, ld1 h26 b27 ((o28 + Int.toNat i18 * 11) + 4) = some (.int .u64 i29) ∧
    (∃ j11, j11 < k9 ∧ I8 p23 n24 c25 i29 j11 h26))))) ∧
    (¬ (i21 : Int) = ia1 → Q (.tuple #[(.slice p12 n13 c14), (.int .u64 i15)]) h17)))))))) ∧
    (¬ (((n13 : Nat) : Int) : Int) < 32 → Q (.tuple #[(.slice p12 n13 c14), (.int .u64 i15)]) h10)))))))))))))) :
    Wf Try.prog K 56 [(.slice pa0 na0 ca0), (.int .u64 ia1)] h Q :=
  vcF_sound (hs := [(6, [(7, .slice none 0 0), (8, .int .u64 0)])]) hk (Eq.mpr (by kernel_rfl) H)
theorem vc_family_Chain {K : Xs} (hk : K 22 = none) (pa0 : Option Addr) (na0 ca0 : Nat) (ia1 : Int) (h : AH) (Q : Value → AH → Prop) (H :
    Wf Try.prog K 56 [(.slice pa0 na0 ca0), (.int .u64 ia1)] h fun r0 h1 =>
    (∃ (p2 : Option Addr) (n3 c4 : Nat), ∃ i5 : Int, r0 = (.tuple #[(.slice p2 n3 c4), (.int .u64 i5)]) ∧
    (Q (.slice p2 n3 c4) h1))) :
    Wf Try.prog K 22 [(.slice pa0 na0 ca0), (.int .u64 ia1)] h Q :=
  vcF_sound (hs := []) hk (Eq.mpr (by kernel_rfl) H)
theorem vc_family_Origin {K : Xs} (hk : K 18 = none) (pa0 : Option Addr) (na0 ca0 : Nat) (ia1 : Int) (h : AH) (Q : Value → AH → Prop) (H :
    Wf Try.prog K 56 [(.slice pa0 na0 ca0), (.int .u64 ia1)] h fun r0 h1 =>
    (∃ (p2 : Option Addr) (n3 c4 : Nat), ∃ i5 : Int, r0 = (.tuple #[(.slice p2 n3 c4), (.int .u64 i5)]) ∧
    (Q (.int .u64 i5) h1))) :
    Wf Try.prog K 18 [(.slice pa0 na0 ca0), (.int .u64 ia1)] h Q :=
  vcF_sound (hs := []) hk (Eq.mpr (by kernel_rfl) H)
theorem vc_family_Named {K : Xs} (hk : K 11 = none) (pa0 : Option Addr) (na0 ca0 : Nat) (sa1 : ByteArray) (h : AH) (Q : Value → AH → Prop) (H :
    ∀ h0 : AH, h0 = h.alloc (.cells ([(.int .u64 0), (.string (ByteArray.mk #[])), (.bool false), (.int .u64 0), (.int .u64 0), (.int .u64 0), (.int .i64 0), (.int .i64 0), (.int .u64 0), (.int .u32 0), (.slice none 0 0)] : List Value) 28 false) →
    Wf Try.prog K 40 [(.string sa1)] h0 fun r1 h2 =>
    (∃ s3 : ByteArray, ∃ s4 : ByteArray, ∃ i5 : Int, r1 = (.tuple #[(.string s3), (.string s4), (.int .i64 i5)]) ∧
    (((i5 : Int) = 0 → Wf Try.prog K 41 [(.slice pa0 na0 ca0), (.agg #[(.int .u64 0), (.string s3)])] h2 fun r6 h7 =>
    (∃ i8 : Int, r6 = (.int .i64 i8) ∧
    (((0 : Int) ≤ i8 → (s4 = (ByteArray.mk #[]) → ((i8 : Int) < 0 → (List.length ([(.int .u64 0), (.string (ByteArray.mk #[])), (.bool false), (.int .u64 0), (.int .u64 0), (.int .u64 0), (.int .i64 0), (.int .i64 0), (.int .u64 0), (.int .u32 0), (.slice none 0 0)] : List Value) = 11) ∧ ∃ h9 : AH, stN h7 h.next 0 ([(.int .u64 0), (.string (ByteArray.mk #[])), (.bool false), (.int .u64 0), (.int .u64 0), (.int .u64 0), (.int .i64 0), (.int .i64 0), (.int .u64 0), (.int .u32 0), (.slice none 0 0)] : List Value) = some h9 ∧
    (∃ i10 : Int, ∃ s11 : ByteArray, ∃ b12 : Bool, ∃ i13 : Int, ∃ i14 : Int, ∃ i15 : Int, ∃ i16 : Int, ∃ i17 : Int, ∃ i18 : Int, ∃ i19 : Int, ∃ (p20 : Option Addr) (n21 c22 : Nat), ldN h9 h.next 0 11 = some ([(.int .u64 i10), (.string s11), (.bool b12), (.int .u64 i13), (.int .u64 i14), (.int .u64 i15), (.int .i64 i16), (.int .i64 i17), (.int .u64 i18), (.int .u32 i19), (.slice p20 n21 c22)] : List Value) ∧
    (Q (.tuple #[(.agg #[(.int .u64 i10), (.string s11), (.bool b12), (.int .u64 i13), (.int .u64 i14), (.int .u64 i15), (.int .i64 i16), (.int .i64 i17), (.int .u64 i18), (.int .u32 i19), (.slice p20 n21 c22)]), (.int .i64 161)]) h9))) ∧
    (¬ (i8 : Int) < 0 → derefP pa0 fun b23 o24 => (((0 : Int) ≤ i8) ∧ ((i8 : Int) < ((na0 : Nat) : Int)) ∧
    (∃ i25 : Int, ∃ s26 : ByteArray, ∃ b27 : Bool, ∃ i28 : Int, ∃ i29 : Int, ∃ i30 : Int, ∃ i31 : Int, ∃ i32 : Int, ∃ i33 : Int, ∃ i34 : Int, ∃ (p35 : Option Addr) (n36 c37 : Nat), ldN h7 b23 (o24 + Int.toNat i8 * 11) 11 = some ([(.int .u64 i25), (.string s26), (.bool b27), (.int .u64 i28), (.int .u64 i29), (.int .u64 i30), (.int .i64 i31), (.int .i64 i32), (.int .u64 i33), (.int .u32 i34), (.slice p35 n36 c37)] : List Value) ∧
    (Wf Try.prog K 42 [(.agg #[(.int .u64 i25), (.string s26), (.bool b27), (.int .u64 i28), (.int .u64 i29), (.int .u64 i30), (.int .i64 i31), (.int .i64 i32), (.int .u64 i33), (.int .u32 i34), (.slice p35 n36 c37)])] h7 fun r38 h39 =>
    (∃ i40 : Int, ∃ s41 : ByteArray, ∃ b42 : Bool, ∃ i43 : Int, ∃ i44 : Int, ∃ i45 : Int, ∃ i46 : Int, ∃ i47 : Int, ∃ i48 : Int, ∃ i49 : Int, ∃ (p50 : Option Addr) (n51 c52 : Nat), r38 = (.agg #[(.int .u64 i40), (.string s41), (.bool b42), (.int .u64 i43), (.int .u64 i44), (.int .u64 i45), (.int .i64 i46), (.int .i64 i47), (.int .u64 i48), (.int .u32 i49), (.slice p50 n51 c52)]) ∧
    ((List.length ([(.int .u64 i40), (.string s41), (.bool b42), (.int .u64 i43), (.int .u64 i44), (.int .u64 i45), (.int .i64 i46), (.int .i64 i47), (.int .u64 i48), (.int .u32 i49), (.slice p50 n51 c52)] : List Value) = 11) ∧ ∃ h53 : AH, stN h39 h.next 0 ([(.int .u64 i40), (.string s41), (.bool b42), (.int .u64 i43), (.int .u64 i44), (.int .u64 i45), (.int .i64 i46), (.int .i64 i47), (.int .u64 i48), (.int .u32 i49), (.slice p50 n51 c52)] : List Value) = some h53 ∧
    (∃ i54 : Int, ∃ s55 : ByteArray, ∃ b56 : Bool, ∃ i57 : Int, ∃ i58 : Int, ∃ i59 : Int, ∃ i60 : Int, ∃ i61 : Int, ∃ i62 : Int, ∃ i63 : Int, ∃ (p64 : Option Addr) (n65 c66 : Nat), ldN h53 h.next 0 11 = some ([(.int .u64 i54), (.string s55), (.bool b56), (.int .u64 i57), (.int .u64 i58), (.int .u64 i59), (.int .i64 i60), (.int .i64 i61), (.int .u64 i62), (.int .u32 i63), (.slice p64 n65 c66)] : List Value) ∧
    (Q (.tuple #[(.agg #[(.int .u64 i54), (.string s55), (.bool b56), (.int .u64 i57), (.int .u64 i58), (.int .u64 i59), (.int .i64 i60), (.int .i64 i61), (.int .u64 i62), (.int .u32 i63), (.slice p64 n65 c66)]), (.int .i64 0)]) h53))))))))) ∧
    (¬ s4 = (ByteArray.mk #[]) → derefP pa0 fun b67 o68 => (((0 : Int) ≤ i8) ∧ ((i8 : Int) < ((na0 : Nat) : Int)) ∧
    (∃ i69 : Int, ld1 h7 b67 (o68 + Int.toNat i8 * 11) = some (.int .u64 i69) ∧
    (Wf Try.prog K 41 [(.slice pa0 na0 ca0), (.agg #[(.int .u64 i69), (.string s4)])] h7 fun r70 h71 =>
    (∃ i72 : Int, r70 = (.int .i64 i72) ∧
    (((i72 : Int) < 0 → (List.length ([(.int .u64 0), (.string (ByteArray.mk #[])), (.bool false), (.int .u64 0), (.int .u64 0), (.int .u64 0), (.int .i64 0), (.int .i64 0), (.int .u64 0), (.int .u32 0), (.slice none 0 0)] : List Value) = 11) ∧ ∃ h73 : AH, stN h71 h.next 0 ([(.int .u64 0), (.string (ByteArray.mk #[])), (.bool false), (.int .u64 0), (.int .u64 0), (.int .u64 0), (.int .i64 0), (.int .i64 0), (.int .u64 0), (.int .u32 0), (.slice none 0 0)] : List Value) = some h73 ∧
    (∃ i74 : Int, ∃ s75 : ByteArray, ∃ b76 : Bool, ∃ i77 : Int, ∃ i78 : Int, ∃ i79 : Int, ∃ i80 : Int, ∃ i81 : Int, ∃ i82 : Int, ∃ i83 : Int, ∃ (p84 : Option Addr) (n85 c86 : Nat), ldN h73 h.next 0 11 = some ([(.int .u64 i74), (.string s75), (.bool b76), (.int .u64 i77), (.int .u64 i78), (.int .u64 i79), (.int .i64 i80), (.int .i64 i81), (.int .u64 i82), (.int .u32 i83), (.slice p84 n85 c86)] : List Value) ∧
    (Q (.tuple #[(.agg #[(.int .u64 i74), (.string s75), (.bool b76), (.int .u64 i77), (.int .u64 i78), (.int .u64 i79), (.int .i64 i80), (.int .i64 i81), (.int .u64 i82), (.int .u32 i83), (.slice p84 n85 c86)]), (.int .i64 161)]) h73))) ∧
    (¬ (i72 : Int) < 0 → derefP pa0 fun b87 o88 => (((0 : Int) ≤ i72) ∧ ((i72 : Int) < ((na0 : Nat) : Int)) ∧
    (∃ i89 : Int, ∃ s90 : ByteArray, ∃ b91 : Bool, ∃ i92 : Int, ∃ i93 : Int, ∃ i94 : Int, ∃ i95 : Int, ∃ i96 : Int, ∃ i97 : Int, ∃ i98 : Int, ∃ (p99 : Option Addr) (n100 c101 : Nat), ldN h71 b87 (o88 + Int.toNat i72 * 11) 11 = some ([(.int .u64 i89), (.string s90), (.bool b91), (.int .u64 i92), (.int .u64 i93), (.int .u64 i94), (.int .i64 i95), (.int .i64 i96), (.int .u64 i97), (.int .u32 i98), (.slice p99 n100 c101)] : List Value) ∧
    (Wf Try.prog K 42 [(.agg #[(.int .u64 i89), (.string s90), (.bool b91), (.int .u64 i92), (.int .u64 i93), (.int .u64 i94), (.int .i64 i95), (.int .i64 i96), (.int .u64 i97), (.int .u32 i98), (.slice p99 n100 c101)])] h71 fun r102 h103 =>
    (∃ i104 : Int, ∃ s105 : ByteArray, ∃ b106 : Bool, ∃ i107 : Int, ∃ i108 : Int, ∃ i109 : Int, ∃ i110 : Int, ∃ i111 : Int, ∃ i112 : Int, ∃ i113 : Int, ∃ (p114 : Option Addr) (n115 c116 : Nat), r102 = (.agg #[(.int .u64 i104), (.string s105), (.bool b106), (.int .u64 i107), (.int .u64 i108), (.int .u64 i109), (.int .i64 i110), (.int .i64 i111), (.int .u64 i112), (.int .u32 i113), (.slice p114 n115 c116)]) ∧
    ((List.length ([(.int .u64 i104), (.string s105), (.bool b106), (.int .u64 i107), (.int .u64 i108), (.int .u64 i109), (.int .i64 i110), (.int .i64 i111), (.int .u64 i112), (.int .u32 i113), (.slice p114 n115 c116)] : List Value) = 11) ∧ ∃ h117 : AH, stN h103 h.next 0 ([(.int .u64 i104), (.string s105), (.bool b106), (.int .u64 i107), (.int .u64 i108), (.int .u64 i109), (.int .i64 i110), (.int .i64 i111), (.int .u64 i112), (.int .u32 i113), (.slice p114 n115 c116)] : List Value) = some h117 ∧
    (∃ i118 : Int, ∃ s119 : ByteArray, ∃ b120 : Bool, ∃ i121 : Int, ∃ i122 : Int, ∃ i123 : Int, ∃ i124 : Int, ∃ i125 : Int, ∃ i126 : Int, ∃ i127 : Int, ∃ (p128 : Option Addr) (n129 c130 : Nat), ldN h117 h.next 0 11 = some ([(.int .u64 i118), (.string s119), (.bool b120), (.int .u64 i121), (.int .u64 i122), (.int .u64 i123), (.int .i64 i124), (.int .i64 i125), (.int .u64 i126), (.int .u32 i127), (.slice p128 n129 c130)] : List Value) ∧
    (Q (.tuple #[(.agg #[(.int .u64 i118), (.string s119), (.bool b120), (.int .u64 i121), (.int .u64 i122), (.int .u64 i123), (.int .i64 i124), (.int .i64 i125), (.int .u64 i126), (.int .u32 i127), (.slice p128 n129 c130)]), (.int .i64 0)]) h117))))))))))))))) ∧
    (¬ (0 : Int) ≤ i8 → ((i8 : Int) < 0 → (List.length ([(.int .u64 0), (.string (ByteArray.mk #[])), (.bool false), (.int .u64 0), (.int .u64 0), (.int .u64 0), (.int .i64 0), (.int .i64 0), (.int .u64 0), (.int .u32 0), (.slice none 0 0)] : List Value) = 11) ∧ ∃ h131 : AH, stN h7 h.next 0 ([(.int .u64 0), (.string (ByteArray.mk #[])), (.bool false), (.int .u64 0), (.int .u64 0), (.int .u64 0), (.int .i64 0), (.int .i64 0), (.int .u64 0), (.int .u32 0), (.slice none 0 0)] : List Value) = some h131 ∧
    (∃ i132 : Int, ∃ s133 : ByteArray, ∃ b134 : Bool, ∃ i135 : Int, ∃ i136 : Int, ∃ i137 : Int, ∃ i138 : Int, ∃ i139 : Int, ∃ i140 : Int, ∃ i141 : Int, ∃ (p142 : Option Addr) (n143 c144 : Nat), ldN h131 h.next 0 11 = some ([(.int .u64 i132), (.string s133), (.bool b134), (.int .u64 i135), (.int .u64 i136), (.int .u64 i137), (.int .i64 i138), (.int .i64 i139), (.int .u64 i140), (.int .u32 i141), (.slice p142 n143 c144)] : List Value) ∧
    (Q (.tuple #[(.agg #[(.int .u64 i132), (.string s133), (.bool b134), (.int .u64 i135), (.int .u64 i136), (.int .u64 i137), (.int .i64 i138), (.int .i64 i139), (.int .u64 i140), (.int .u32 i141), (.slice p142 n143 c144)]), (.int .i64 161)]) h131))) ∧
    (¬ (i8 : Int) < 0 → derefP pa0 fun b145 o146 => (((0 : Int) ≤ i8) ∧ ((i8 : Int) < ((na0 : Nat) : Int)) ∧
    (∃ i147 : Int, ∃ s148 : ByteArray, ∃ b149 : Bool, ∃ i150 : Int, ∃ i151 : Int, ∃ i152 : Int, ∃ i153 : Int, ∃ i154 : Int, ∃ i155 : Int, ∃ i156 : Int, ∃ (p157 : Option Addr) (n158 c159 : Nat), ldN h7 b145 (o146 + Int.toNat i8 * 11) 11 = some ([(.int .u64 i147), (.string s148), (.bool b149), (.int .u64 i150), (.int .u64 i151), (.int .u64 i152), (.int .i64 i153), (.int .i64 i154), (.int .u64 i155), (.int .u32 i156), (.slice p157 n158 c159)] : List Value) ∧
    (Wf Try.prog K 42 [(.agg #[(.int .u64 i147), (.string s148), (.bool b149), (.int .u64 i150), (.int .u64 i151), (.int .u64 i152), (.int .i64 i153), (.int .i64 i154), (.int .u64 i155), (.int .u32 i156), (.slice p157 n158 c159)])] h7 fun r160 h161 =>
    (∃ i162 : Int, ∃ s163 : ByteArray, ∃ b164 : Bool, ∃ i165 : Int, ∃ i166 : Int, ∃ i167 : Int, ∃ i168 : Int, ∃ i169 : Int, ∃ i170 : Int, ∃ i171 : Int, ∃ (p172 : Option Addr) (n173 c174 : Nat), r160 = (.agg #[(.int .u64 i162), (.string s163), (.bool b164), (.int .u64 i165), (.int .u64 i166), (.int .u64 i167), (.int .i64 i168), (.int .i64 i169), (.int .u64 i170), (.int .u32 i171), (.slice p172 n173 c174)]) ∧
    ((List.length ([(.int .u64 i162), (.string s163), (.bool b164), (.int .u64 i165), (.int .u64 i166), (.int .u64 i167), (.int .i64 i168), (.int .i64 i169), (.int .u64 i170), (.int .u32 i171), (.slice p172 n173 c174)] : List Value) = 11) ∧ ∃ h175 : AH, stN h161 h.next 0 ([(.int .u64 i162), (.string s163), (.bool b164), (.int .u64 i165), (.int .u64 i166), (.int .u64 i167), (.int .i64 i168), (.int .i64 i169), (.int .u64 i170), (.int .u32 i171), (.slice p172 n173 c174)] : List Value) = some h175 ∧
    (∃ i176 : Int, ∃ s177 : ByteArray, ∃ b178 : Bool, ∃ i179 : Int, ∃ i180 : Int, ∃ i181 : Int, ∃ i182 : Int, ∃ i183 : Int, ∃ i184 : Int, ∃ i185 : Int, ∃ (p186 : Option Addr) (n187 c188 : Nat), ldN h175 h.next 0 11 = some ([(.int .u64 i176), (.string s177), (.bool b178), (.int .u64 i179), (.int .u64 i180), (.int .u64 i181), (.int .i64 i182), (.int .i64 i183), (.int .u64 i184), (.int .u32 i185), (.slice p186 n187 c188)] : List Value) ∧
    (Q (.tuple #[(.agg #[(.int .u64 i176), (.string s177), (.bool b178), (.int .u64 i179), (.int .u64 i180), (.int .u64 i181), (.int .i64 i182), (.int .i64 i183), (.int .u64 i184), (.int .u32 i185), (.slice p186 n187 c188)]), (.int .i64 0)]) h175)))))))))))) ∧
    (¬ (i5 : Int) = 0 → (List.length ([(.int .u64 0), (.string (ByteArray.mk #[])), (.bool false), (.int .u64 0), (.int .u64 0), (.int .u64 0), (.int .i64 0), (.int .i64 0), (.int .u64 0), (.int .u32 0), (.slice none 0 0)] : List Value) = 11) ∧ ∃ h189 : AH, stN h2 h.next 0 ([(.int .u64 0), (.string (ByteArray.mk #[])), (.bool false), (.int .u64 0), (.int .u64 0), (.int .u64 0), (.int .i64 0), (.int .i64 0), (.int .u64 0), (.int .u32 0), (.slice none 0 0)] : List Value) = some h189 ∧
    (∃ i190 : Int, ∃ s191 : ByteArray, ∃ b192 : Bool, ∃ i193 : Int, ∃ i194 : Int, ∃ i195 : Int, ∃ i196 : Int, ∃ i197 : Int, ∃ i198 : Int, ∃ i199 : Int, ∃ (p200 : Option Addr) (n201 c202 : Nat), ldN h189 h.next 0 11 = some ([(.int .u64 i190), (.string s191), (.bool b192), (.int .u64 i193), (.int .u64 i194), (.int .u64 i195), (.int .i64 i196), (.int .i64 i197), (.int .u64 i198), (.int .u32 i199), (.slice p200 n201 c202)] : List Value) ∧
    (Q (.tuple #[(.agg #[(.int .u64 i190), (.string s191), (.bool b192), (.int .u64 i193), (.int .u64 i194), (.int .u64 i195), (.int .i64 i196), (.int .i64 i197), (.int .u64 i198), (.int .u32 i199), (.slice p200 n201 c202)]), (.int .i64 i5)]) h189)))))) :
    Wf Try.prog K 11 [(.slice pa0 na0 ca0), (.string sa1)] h Q :=
  vcF_sound (hs := []) hk (Eq.mpr (by kernel_rfl) H)
theorem vc_family_placeOf {K : Xs} (hk : K 41 = none) (pa0 : Option Addr) (na0 ca0 : Nat) (ia1_0 : Int) (sa1_1 : ByteArray) (h : AH) (Q : Value → AH → Prop) (H :
    ∀ h0 : AH, h0 = h.alloc (.cells ([(.int .u64 ia1_0), (.string sa1_1)] : List Value) 73 false) →
    ∃ I1 : Int → Nat → AH → Prop, (∃ n, I1 0 n h0) ∧
    ∀ (k2 : Nat) (h3 : AH) (i5 : Int), I1 i5 k2 h3 →
    ((i5 : Int) < ((na0 : Nat) : Int) → derefP pa0 fun b6 o7 => (((0 : Int) ≤ i5) ∧ ((i5 : Int) < ((na0 : Nat) : Int)) ∧
    (Wf Try.prog K 45 [(.pointer (some ⟨b6, (o7 + Int.toNat i5 * 11), none⟩))] h3 fun r8 h9 =>
    (∃ i10 : Int, ∃ s11 : ByteArray, r8 = (.agg #[(.int .u64 i10), (.string s11)]) ∧
    (∃ i12 : Int, ∃ s13 : ByteArray, ldN h9 h.next 0 2 = some ([(.int .u64 i12), (.string s13)] : List Value) ∧
    (∃ la14 lb15, keyA Try.prog 73 (.agg #[(.int .u64 i10), (.string s11)]) = some la14 ∧ keyA Try.prog 73 (.agg #[(.int .u64 i12), (.string s13)]) = some lb15 ∧
    (litsEq la14 lb15 = true → (ldN h3 h.next 0 2 = some ([(.int .u64 i12), (.string s13)] : List Value)) ∧
    ((ldN h9 h.next 0 2 = some ([(.int .u64 i12), (.string s13)] : List Value)) ∧
    (Q (.int .i64 i5) h9))) ∧
    (litsEq la14 lb15 = false → (ldN h3 h.next 0 2 = some ([(.int .u64 i12), (.string s13)] : List Value)) ∧
    ((ldN h9 h.next 0 2 = some ([(.int .u64 i12), (.string s13)] : List Value)) ∧
    (∀ i16 : Int, i16 = IntKind.wrap .i64 (i5 + 1) → ∃ j4, j4 < k2 ∧ I1 i16 j4 h9))))))))) ∧
    (¬ (i5 : Int) < ((na0 : Nat) : Int) → Q (.int .i64 (-1)) h3)) :
    Wf Try.prog K 41 [(.slice pa0 na0 ca0), (.agg #[(.int .u64 ia1_0), (.string sa1_1)])] h Q :=
  vcF_sound (hs := [(2, [(8, .int .i64 0)])]) hk (Eq.mpr (by kernel_rfl) H)
theorem vc_family_Next {K : Xs} (hk : K 21 = none) (pa0 : Option Addr) (na0 ca0 : Nat) (ia1 : Int) (h : AH) (Q : Value → AH → Prop) (H :
    ∀ h0 : AH, h0 = h.alloc (.cells ([(.slice pa0 na0 ca0)] : List Value) 34 false) →
    ∀ h1 : AH, h1 = h0.alloc (.cells ([(.int .u64 0)] : List Value) 22 false) →
    ∃ (p2 : Option Addr) (n3 c4 : Nat), ld1 h1 h.next 0 = some (.slice p2 n3 c4) ∧
    (Wf Try.prog K 54 [(.slice p2 n3 c4), (.int .u64 ia1)] h1 fun r5 h6 =>
    (∃ i7 : Int, r5 = (.int .i64 i7) ∧
    (∀ h8 : AH, h8 = h6.alloc (.cells ([(.int .i64 0)] : List Value) 3 false) →
    ∃ h9 : AH, st1 h8 h6.next 0 (.int .i64 i7) = some h9 ∧
    (∃ i10 : Int, ld1 h9 h6.next 0 = some (.int .i64 i10) ∧
    (((i10 : Int) < 0 → ∃ h11 : AH, st1 h9 h0.next 0 (.int .u64 0) = some h11 ∧
    (∃ i12 : Int, ld1 h11 h0.next 0 = some (.int .u64 i12) ∧
    (Q (.int .u64 i12) h11))) ∧
    (¬ (i10 : Int) < 0 → ∃ (p13 : Option Addr) (n14 c15 : Nat), ld1 h9 h.next 0 = some (.slice p13 n14 c15) ∧
    (∃ i16 : Int, ld1 h9 h6.next 0 = some (.int .i64 i16) ∧
    (derefP p13 fun b17 o18 => (((0 : Int) ≤ i16) ∧ ((i16 : Int) < ((n14 : Nat) : Int)) ∧
    (((ld1 h9 b17 ((o18 + Int.toNat i16 * 11) + 2) = some (.bool true) ∧
    (∃ (p19 : Option Addr) (n20 c21 : Nat), ld1 h9 h.next 0 = some (.slice p19 n20 c21) ∧
    (Wf Try.prog K 55 [(.slice p19 n20 c21), (.int .u64 ia1)] h9 fun r22 h23 =>
    (∃ (g24 : FuncId) (cap25 : List Value), r22 = (.func (.func g24) #[] cap25.toArray) ∧
    (∃ (J26 : Nat → AH → Prop) (D27 : AX → AH → Prop) (N28 : Nat) (item29 : Nat → List Value) (G32 B33 : AH → AH → Prop),
    (K g24 = none ∧ ([23] : List Nat) = [23]) ∧
    (∀ i, i < N28 → ∃ i35 : Int, item29 i = [(.int .i64 i35)]) ∧
    (∀ h1 : AH, h1.next = h23.next + 1 → (∀ c, c ≠ h23.next → h1.get c = h23.get c) → J26 0 h1) ∧
    (∀ i h1 h2, J26 i h1 → Near h23.next h1 h2 → J26 i h2) ∧
    (∀ x h1 h2, D27 x h1 → Near h23.next h1 h2 → D27 x h2) ∧
    (∀ i h1 h2, J26 i h1 → G32 h1 h2 → J26 i h2) ∧ (∀ x h1 h2, D27 x h1 → G32 h1 h2 → D27 x h2) ∧ (∀ h1 h2, G32 h1 h2 → h2.get h23.next = h1.get h23.next) ∧
    (∀ (k30 : Nat) (h31 : AH), k30 < N28 → J26 k30 h31 → (∃ L, h31.get h23.next = some (.loop L)) → ∀ (i34 : Int), item29 k30 = [(.int .i64 i34)] →
    AX.normal = AX.normal ∧ (h31.get h23.next = h31.get h23.next) ∧ ∀ h36 : AH, Near h23.next h31 h36 → (∃ L, h36.get h23.next = some (.loop L)) →
    ∃ (p37 : Option Addr) (n38 c39 : Nat), ld1 h36 h.next 0 = some (.slice p37 n38 c39) ∧
    (derefP p37 fun b40 o41 => (((0 : Int) ≤ i34) ∧ ((i34 : Int) < ((n38 : Nat) : Int)) ∧
    (∃ i42 : Int, ld1 h36 b40 ((o41 + Int.toNat i34 * 11) + 3) = some (.int .u64 i42) ∧
    (∃ (p43 : Option Addr) (n44 c45 : Nat), ld1 h36 h.next 0 = some (.slice p43 n44 c45) ∧
    (∃ i46 : Int, ld1 h36 h6.next 0 = some (.int .i64 i46) ∧
    (derefP p43 fun b47 o48 => (((0 : Int) ≤ i46) ∧ ((i46 : Int) < ((n44 : Nat) : Int)) ∧
    (∃ i49 : Int, ld1 h36 b47 ((o48 + Int.toNat i46 * 11) + 3) = some (.int .u64 i49) ∧
    (((i42 : Int) = i49 → ∃ (p50 : Option Addr) (n51 c52 : Nat), ld1 h36 h.next 0 = some (.slice p50 n51 c52) ∧
    (derefP p50 fun b53 o54 => (((0 : Int) ≤ i34) ∧ ((i34 : Int) < ((n51 : Nat) : Int)) ∧
    (∃ i55 : Int, ld1 h36 b53 (o54 + Int.toNat i34 * 11) = some (.int .u64 i55) ∧
    (∃ h56 : AH, st1 h36 h0.next 0 (.int .u64 i55) = some h56 ∧
    ((h56.get h23.next = h36.get h23.next ∧ D27 .ret h56 ∧ ∀ h5, Near h23.next h56 h5 → B33 h31 h5))))))) ∧
    (¬ (i42 : Int) = i49 → (h36.get h23.next = h36.get h23.next ∧ J26 (k30 + 1) h36 ∧ ∀ h5, Near h23.next h36 h5 → B33 h31 h5)))))))))))) ∧
    (∀ (JJ57 : Nat → AH → Prop) (DD58 : AH → Prop), (∀ i h1, JJ57 i h1 → J26 i h1) → (∀ i h1 h2, JJ57 i h1 → G32 h1 h2 → JJ57 i h2) → (∀ h1 h2, DD58 h1 → G32 h1 h2 → DD58 h2) →
    (∀ (k60 : Nat) (h59 : AH), k60 < N28 → JJ57 k60 h59 → Wy Try.prog K h23.next (item29 k60) h59 fun r62 h63 => ((r62 = .bool true ∧ JJ57 (k60 + 1) h63) ∨ (r62 = .bool false ∧ DD58 h63)) ∧ B33 h59 h63) →
    ∀ h61 : AH, JJ57 0 h61 → Wf Try.prog K g24 ([(Value.func (Fn.yield h23.next) #[] #[])] ++ cap25) h61 fun _ h64 => JJ57 N28 h64 ∨ DD58 h64) ∧
    (∀ h65 : AH, J26 N28 h65 → ∃ h66 : AH, st1 (h65.del h23.next) h0.next 0 (.int .u64 0) = some h66 ∧
    (∃ i67 : Int, ld1 h66 h0.next 0 = some (.int .u64 i67) ∧
    (Q (.int .u64 i67) h66))) ∧
    (∀ h68 : AH, D27 .ret h68 → ∃ i70 : Int, ld1 (h68.del h23.next) h0.next 0 = some (.int .u64 i70) ∧
    (Q (.int .u64 i70) (h68.del h23.next))) ∧
    (∀ (x69 : AX) (h68 : AH), x69 ≠ .normal → D27 x69 h68 → memAX x69 [.ret] = true)))))) ∨ (ld1 h9 b17 ((o18 + Int.toNat i16 * 11) + 2) = some (.bool false) ∧
    (∃ h71 : AH, st1 h9 h0.next 0 (.int .u64 0) = some h71 ∧
    (∃ i72 : Int, ld1 h71 h0.next 0 = some (.int .u64 i72) ∧
    (Q (.int .u64 i72) h71)))))))))))))))) :
    Wf Try.prog K 21 [(.slice pa0 na0 ca0), (.int .u64 ia1)] h Q :=
  vcF_sound (hs := [(5, [(23, .int .i64 0)])]) hk (Eq.mpr (by kernel_rfl) H)
theorem vc_family_Full {K : Xs} (hk : K 20 = none) (pa0 : Option Addr) (na0 ca0 : Nat) (ia1 : Int) (h : AH) (Q : Value → AH → Prop) (H :
    Wf Try.prog K 54 [(.slice pa0 na0 ca0), (.int .u64 ia1)] h fun r0 h1 =>
    (∃ i2 : Int, r0 = (.int .i64 i2) ∧
    (((i2 : Int) < 0 → Q (.string (ByteArray.mk #[])) h1) ∧
    (¬ (i2 : Int) < 0 → derefP pa0 fun b3 o4 => (((0 : Int) ≤ i2) ∧ ((i2 : Int) < ((na0 : Nat) : Int)) ∧
    (((ld1 h1 b3 ((o4 + Int.toNat i2 * 11) + 2) = some (.bool true) ∧
    (derefP pa0 fun b5 o6 => (((0 : Int) ≤ i2) ∧ ((i2 : Int) < ((na0 : Nat) : Int)) ∧
    (∃ i7 : Int, ld1 h1 b5 ((o6 + Int.toNat i2 * 11) + 3) = some (.int .u64 i7) ∧
    (Wf Try.prog K 54 [(.slice pa0 na0 ca0), (.int .u64 i7)] h1 fun r8 h9 =>
    (∃ i10 : Int, r8 = (.int .i64 i10) ∧
    (((i10 : Int) < 0 → Q (.string (ByteArray.mk #[])) h9) ∧
    (¬ (i10 : Int) < 0 → derefP pa0 fun b11 o12 => (((0 : Int) ≤ i10) ∧ ((i10 : Int) < ((na0 : Nat) : Int)) ∧
    (∃ s13 : ByteArray, ld1 h9 b11 ((o12 + Int.toNat i10 * 11) + 1) = some (.string s13) ∧
    (derefP pa0 fun b14 o15 => (((0 : Int) ≤ i2) ∧ ((i2 : Int) < ((na0 : Nat) : Int)) ∧
    (∃ s16 : ByteArray, ld1 h9 b14 ((o15 + Int.toNat i2 * 11) + 1) = some (.string s16) ∧
    (Wf Try.prog K 57 [(.string s13), (.string s16)] h9 fun r17 h18 =>
    (∃ s19 : ByteArray, r17 = (.string s19) ∧
    (Q (.string s19) h18)))))))))))))))) ∨ (ld1 h1 b3 ((o4 + Int.toNat i2 * 11) + 2) = some (.bool false) ∧
    (derefP pa0 fun b20 o21 => (((0 : Int) ≤ i2) ∧ ((i2 : Int) < ((na0 : Nat) : Int)) ∧
    (∃ s22 : ByteArray, ld1 h1 b20 ((o21 + Int.toNat i2 * 11) + 1) = some (.string s22) ∧
    (Wf Try.prog K 57 [(.string s22), (.string (ByteArray.mk #[]))] h1 fun r23 h24 =>
    (∃ s25 : ByteArray, r23 = (.string s25) ∧
    (Q (.string s25) h24)))))))))))))) :
    Wf Try.prog K 20 [(.slice pa0 na0 ca0), (.int .u64 ia1)] h Q :=
  vcF_sound (hs := []) hk (Eq.mpr (by kernel_rfl) H)
theorem vc_entry_Right {K : Xs} (hk : K 44 = none) (ia0_0 : Int) (sa0_1 : ByteArray) (ba0_2 : Bool) (ia0_3 : Int) (ia0_4 : Int) (ia0_5 : Int) (ia0_6 : Int) (ia0_7 : Int) (ia0_8 : Int) (ia0_9 : Int) (pa0_10 : Option Addr) (na0_10 ca0_10 : Nat) (h : AH) (Q : Value → AH → Prop) (H :
    ∀ h0 : AH, h0 = h.alloc (.cells ([(.int .u64 ia0_0), (.string sa0_1), (.bool ba0_2), (.int .u64 ia0_3), (.int .u64 ia0_4), (.int .u64 ia0_5), (.int .i64 ia0_6), (.int .i64 ia0_7), (.int .u64 ia0_8), (.int .u32 ia0_9), (.slice pa0_10 na0_10 ca0_10)] : List Value) 28 false) →
    ∃ i1 : Int, ld1 h0 h.next 0 = some (.int .u64 i1) ∧
    (((i1 : Int) < 1 → Q (.bool false) h0) ∧
    (¬ (i1 : Int) < 1 → ∃ i2 : Int, ld1 h0 h.next 0 = some (.int .u64 i2) ∧
    (((281474976710655 : Int) < i2 → Q (.bool false) h0) ∧
    (¬ (281474976710655 : Int) < i2 → ∃ i3 : Int, ld1 h0 h.next 3 = some (.int .u64 i3) ∧
    (((i3 : Int) < 1 → Q (.bool false) h0) ∧
    (¬ (i3 : Int) < 1 → ∃ i4 : Int, ld1 h0 h.next 3 = some (.int .u64 i4) ∧
    (((281474976710655 : Int) < i4 → Q (.bool false) h0) ∧
    (¬ (281474976710655 : Int) < i4 → ∃ i5 : Int, ld1 h0 h.next 4 = some (.int .u64 i5) ∧
    (((281474976710655 : Int) < i5 → Q (.bool false) h0) ∧
    (¬ (281474976710655 : Int) < i5 → ∃ i6 : Int, ld1 h0 h.next 6 = some (.int .i64 i6) ∧
    (((i6 : Int) < 1 → Q (.bool false) h0) ∧
    (¬ (i6 : Int) < 1 → ∃ i7 : Int, ld1 h0 h.next 6 = some (.int .i64 i7) ∧
    (((64 : Int) < i7 → Q (.bool false) h0) ∧
    (¬ (64 : Int) < i7 → ∃ s8 : ByteArray, ld1 h0 h.next 1 = some (.string s8) ∧
    (Wf Try.prog K 74 [(.string s8)] h0 fun r9 h10 =>
    (((r9 = (.bool true) ∧
    (∃ i11 : Int, ∃ i12 : Int, ∃ i13 : Int, ldN h10 h.next 7 3 = some ([(.int .i64 i11), (.int .u64 i12), (.int .u32 i13)] : List Value) ∧
    (Wf Try.prog K 75 [(.agg #[(.int .i64 i11), (.int .u64 i12), (.int .u32 i13)])] h10 fun r14 h15 =>
    (((r14 = (.bool true) ∧
    (∃ (p16 : Option Addr) (n17 c18 : Nat), ld1 h15 h.next 10 = some (.slice p16 n17 c18) ∧
    (((4000 : Int) < ((n17 : Nat) : Int) → Q (.bool false) h15) ∧
    (¬ (4000 : Int) < ((n17 : Nat) : Int) → ∃ (p19 : Option Addr) (n20 c21 : Nat), ld1 h15 h.next 10 = some (.slice p19 n20 c21) ∧
    (Wf Try.prog K 76 [(.slice p19 n20 c21)] h15 fun r22 h23 =>
    (((r22 = (.bool true) ∧
    (((ld1 h23 h.next 2 = some (.bool true) ∧
    (∃ i24 : Int, ld1 h23 h.next 5 = some (.int .u64 i24) ∧
    (((1 : Int) ≤ i24 → ∃ i25 : Int, ld1 h23 h.next 5 = some (.int .u64 i25) ∧
    (((i25 : Int) ≤ 281474976710655 → Q (.bool true) h23) ∧
    (¬ (i25 : Int) ≤ 281474976710655 → Q (.bool false) h23))) ∧
    (¬ (1 : Int) ≤ i24 → Q (.bool false) h23)))) ∨ (ld1 h23 h.next 2 = some (.bool false) ∧
    (∃ i26 : Int, ld1 h23 h.next 5 = some (.int .u64 i26) ∧
    (((i26 : Int) = 0 → ∃ i27 : Int, ld1 h23 h.next 3 = some (.int .u64 i27) ∧
    (∃ i28 : Int, ld1 h23 h.next 0 = some (.int .u64 i28) ∧
    (((i27 : Int) = i28 → Q (.bool true) h23) ∧
    (¬ (i27 : Int) = i28 → Q (.bool false) h23)))) ∧
    (¬ (i26 : Int) = 0 → Q (.bool false) h23))))))) ∨ (r22 = (.bool false) ∧
    (Q (.bool false) h23))))))))) ∨ (r14 = (.bool false) ∧
    (Q (.bool false) h15))))))) ∨ (r9 = (.bool false) ∧
    (Q (.bool false) h10)))))))))))))))))))) :
    Wf Try.prog K 44 [(.agg #[(.int .u64 ia0_0), (.string sa0_1), (.bool ba0_2), (.int .u64 ia0_3), (.int .u64 ia0_4), (.int .u64 ia0_5), (.int .i64 ia0_6), (.int .i64 ia0_7), (.int .u64 ia0_8), (.int .u32 ia0_9), (.slice pa0_10 na0_10 ca0_10)])] h Q :=
  vcF_sound (hs := []) hk (Eq.mpr (by kernel_rfl) H)
theorem vc_entry_Copy {K : Xs} (hk : K 42 = none) (ia0_0 : Int) (sa0_1 : ByteArray) (ba0_2 : Bool) (ia0_3 : Int) (ia0_4 : Int) (ia0_5 : Int) (ia0_6 : Int) (ia0_7 : Int) (ia0_8 : Int) (ia0_9 : Int) (pa0_10 : Option Addr) (na0_10 ca0_10 : Nat) (h : AH) (Q : Value → AH → Prop) (H :
    ∀ h0 : AH, h0 = h.alloc (.cells ([(.int .u64 ia0_0), (.string sa0_1), (.bool ba0_2), (.int .u64 ia0_3), (.int .u64 ia0_4), (.int .u64 ia0_5), (.int .i64 ia0_6), (.int .i64 ia0_7), (.int .u64 ia0_8), (.int .u32 ia0_9), (.slice pa0_10 na0_10 ca0_10)] : List Value) 28 false) →
    ∀ h1 : AH, h1 = h0.alloc (.cells ([(.int .u64 0), (.string (ByteArray.mk #[])), (.bool false), (.int .u64 0), (.int .u64 0), (.int .u64 0), (.int .i64 0), (.int .i64 0), (.int .u64 0), (.int .u32 0), (.slice none 0 0)] : List Value) 28 false) →
    ∃ (p2 : Option Addr) (n3 c4 : Nat), ld1 h1 h.next 10 = some (.slice p2 n3 c4) ∧
    (∃ (p5 : Option Addr) (n6 c7 : Nat) (h8 : AH), aBuiltin Try.prog h1 .append #[26, 26] [(.slice none 0 0), (.slice p2 n3 c4)] = some (.slice p5 n6 c7, h8) ∧
    (∃ h9 : AH, st1 h8 h.next 10 (.slice p5 n6 c7) = some h9 ∧
    (∃ i10 : Int, ∃ s11 : ByteArray, ∃ b12 : Bool, ∃ i13 : Int, ∃ i14 : Int, ∃ i15 : Int, ∃ i16 : Int, ∃ i17 : Int, ∃ i18 : Int, ∃ i19 : Int, ∃ (p20 : Option Addr) (n21 c22 : Nat), ldN h9 h.next 0 11 = some ([(.int .u64 i10), (.string s11), (.bool b12), (.int .u64 i13), (.int .u64 i14), (.int .u64 i15), (.int .i64 i16), (.int .i64 i17), (.int .u64 i18), (.int .u32 i19), (.slice p20 n21 c22)] : List Value) ∧
    ((List.length ([(.int .u64 i10), (.string s11), (.bool b12), (.int .u64 i13), (.int .u64 i14), (.int .u64 i15), (.int .i64 i16), (.int .i64 i17), (.int .u64 i18), (.int .u32 i19), (.slice p20 n21 c22)] : List Value) = 11) ∧ ∃ h23 : AH, stN h9 h0.next 0 ([(.int .u64 i10), (.string s11), (.bool b12), (.int .u64 i13), (.int .u64 i14), (.int .u64 i15), (.int .i64 i16), (.int .i64 i17), (.int .u64 i18), (.int .u32 i19), (.slice p20 n21 c22)] : List Value) = some h23 ∧
    (∃ i24 : Int, ∃ s25 : ByteArray, ∃ b26 : Bool, ∃ i27 : Int, ∃ i28 : Int, ∃ i29 : Int, ∃ i30 : Int, ∃ i31 : Int, ∃ i32 : Int, ∃ i33 : Int, ∃ (p34 : Option Addr) (n35 c36 : Nat), ldN h23 h0.next 0 11 = some ([(.int .u64 i24), (.string s25), (.bool b26), (.int .u64 i27), (.int .u64 i28), (.int .u64 i29), (.int .i64 i30), (.int .i64 i31), (.int .u64 i32), (.int .u32 i33), (.slice p34 n35 c36)] : List Value) ∧
    (Q (.agg #[(.int .u64 i24), (.string s25), (.bool b26), (.int .u64 i27), (.int .u64 i28), (.int .u64 i29), (.int .i64 i30), (.int .i64 i31), (.int .u64 i32), (.int .u32 i33), (.slice p34 n35 c36)]) h23))))))) :
    Wf Try.prog K 42 [(.agg #[(.int .u64 ia0_0), (.string sa0_1), (.bool ba0_2), (.int .u64 ia0_3), (.int .u64 ia0_4), (.int .u64 ia0_5), (.int .i64 ia0_6), (.int .i64 ia0_7), (.int .u64 ia0_8), (.int .u32 ia0_9), (.slice pa0_10 na0_10 ca0_10)])] h Q :=
  vcF_sound (hs := []) hk (Eq.mpr (by kernel_rfl) H)
theorem vc_name_Split {K : Xs} (hk : K 40 = none) (sa0 : ByteArray) (h : AH) (Q : Value → AH → Prop) (H :
    Wf Try.prog K 73 [(.string sa0), (.string (ByteArray.mk #[64]))] h fun r0 h1 =>
    (∃ s2 : ByteArray, ∃ s3 : ByteArray, ((r0 = (.tuple #[(.string s2), (.string s3), (.bool true)]) ∧
    (Wf Try.prog K 74 [(.string s2)] h1 fun r4 h5 =>
    (((r4 = (.bool true) ∧
    (Wf Try.prog K 74 [(.string s3)] h5 fun r6 h7 =>
    (((r6 = (.bool true) ∧
    (Q (.tuple #[(.string s2), (.string s3), (.int .i64 0)]) h7)) ∨ (r6 = (.bool false) ∧
    (Q (.tuple #[(.string (ByteArray.mk #[])), (.string (ByteArray.mk #[])), (.int .i64 141)]) h7)))))) ∨ (r4 = (.bool false) ∧
    (Q (.tuple #[(.string (ByteArray.mk #[])), (.string (ByteArray.mk #[])), (.int .i64 141)]) h5)))))) ∨ (r0 = (.tuple #[(.string s2), (.string s3), (.bool false)]) ∧
    (Wf Try.prog K 74 [(.string s2)] h1 fun r8 h9 =>
    (((r8 = (.bool true) ∧
    (Q (.tuple #[(.string s2), (.string s3), (.int .i64 0)]) h9)) ∨ (r8 = (.bool false) ∧
    (Q (.tuple #[(.string (ByteArray.mk #[])), (.string (ByteArray.mk #[])), (.int .i64 141)]) h9))))))))) :
    Wf Try.prog K 40 [(.string sa0)] h Q :=
  vcF_sound (hs := []) hk (Eq.mpr (by kernel_rfl) H)
theorem vc_name_Right {K : Xs} (hk : K 74 = none) (sa0 : ByteArray) (h : AH) (Q : Value → AH → Prop) (H :
    ((((ByteArray.size sa0 : Nat) : Int) : Int) < 1 → Q (.bool false) h) ∧
    (¬ (((ByteArray.size sa0 : Nat) : Int) : Int) < 1 → ((24 : Int) < ((ByteArray.size sa0 : Nat) : Int) → Q (.bool false) h) ∧
    (¬ (24 : Int) < ((ByteArray.size sa0 : Nat) : Int) → ∀ h0 : AH, h0 = h.alloc (.siter sa0 0) →
    ∃ I1 : Nat → AH → Prop, (∃ n, I1 n h0) ∧
    ∀ (k2 : Nat) (h3 : AH), I1 k2 h3 →
    ((0 : Nat) = 0) ∧ ∃ (s5 : ByteArray) (pos6 : Nat), h3.get h.next = some (.siter s5 pos6) ∧
    (pos6 < s5.size → ∀ h7 : AH, h7 = h3.set h.next (.siter s5 (pos6 + (Utf8.decode s5 pos6).2)) → ((97 : Int) ≤ (Utf8.decode s5 pos6).1 → (((Utf8.decode s5 pos6).1 : Int) ≤ 122 → ∃ j4, j4 < k2 ∧ I1 j4 h7) ∧
    (¬ ((Utf8.decode s5 pos6).1 : Int) ≤ 122 → ((48 : Int) ≤ (Utf8.decode s5 pos6).1 → (((Utf8.decode s5 pos6).1 : Int) ≤ 57 → ∃ j4, j4 < k2 ∧ I1 j4 h7) ∧
    (¬ ((Utf8.decode s5 pos6).1 : Int) ≤ 57 → (((Utf8.decode s5 pos6).1 : Int) = 45 → ∃ j4, j4 < k2 ∧ I1 j4 h7) ∧
    (¬ ((Utf8.decode s5 pos6).1 : Int) = 45 → (((Utf8.decode s5 pos6).1 : Int) = 95 → ∃ j4, j4 < k2 ∧ I1 j4 h7) ∧
    (¬ ((Utf8.decode s5 pos6).1 : Int) = 95 → Q (.bool false) h7)))) ∧
    (¬ (48 : Int) ≤ (Utf8.decode s5 pos6).1 → (((Utf8.decode s5 pos6).1 : Int) = 45 → ∃ j4, j4 < k2 ∧ I1 j4 h7) ∧
    (¬ ((Utf8.decode s5 pos6).1 : Int) = 45 → (((Utf8.decode s5 pos6).1 : Int) = 95 → ∃ j4, j4 < k2 ∧ I1 j4 h7) ∧
    (¬ ((Utf8.decode s5 pos6).1 : Int) = 95 → Q (.bool false) h7))))) ∧
    (¬ (97 : Int) ≤ (Utf8.decode s5 pos6).1 → ((48 : Int) ≤ (Utf8.decode s5 pos6).1 → (((Utf8.decode s5 pos6).1 : Int) ≤ 57 → ∃ j4, j4 < k2 ∧ I1 j4 h7) ∧
    (¬ ((Utf8.decode s5 pos6).1 : Int) ≤ 57 → (((Utf8.decode s5 pos6).1 : Int) = 45 → ∃ j4, j4 < k2 ∧ I1 j4 h7) ∧
    (¬ ((Utf8.decode s5 pos6).1 : Int) = 45 → (((Utf8.decode s5 pos6).1 : Int) = 95 → ∃ j4, j4 < k2 ∧ I1 j4 h7) ∧
    (¬ ((Utf8.decode s5 pos6).1 : Int) = 95 → Q (.bool false) h7)))) ∧
    (¬ (48 : Int) ≤ (Utf8.decode s5 pos6).1 → (((Utf8.decode s5 pos6).1 : Int) = 45 → ∃ j4, j4 < k2 ∧ I1 j4 h7) ∧
    (¬ ((Utf8.decode s5 pos6).1 : Int) = 45 → (((Utf8.decode s5 pos6).1 : Int) = 95 → ∃ j4, j4 < k2 ∧ I1 j4 h7) ∧
    (¬ ((Utf8.decode s5 pos6).1 : Int) = 95 → Q (.bool false) h7))))) ∧
    (¬ pos6 < s5.size → Q (.bool true) h3)))) :
    Wf Try.prog K 74 [(.string sa0)] h Q :=
  vcF_sound (hs := [(4, [])]) hk (Eq.mpr (by kernel_rfl) H)
theorem vc_name_Full {K : Xs} (hk : K 57 = none) (sa0 : ByteArray) (sa1 : ByteArray) (h : AH) (Q : Value → AH → Prop) (H :
    Wf Try.prog K 74 [(.string sa0)] h fun r0 h1 =>
    (((r0 = (.bool true) ∧
    ((sa1 = (ByteArray.mk #[]) → Q (.string sa0) h1) ∧
    (¬ sa1 = (ByteArray.mk #[]) → Wf Try.prog K 74 [(.string sa1)] h1 fun r2 h3 =>
    (((r2 = (.bool true) ∧
    ((((ByteArray.size sa0 + ByteArray.size (ByteArray.mk #[64]) : Nat) : Int) ≤ 9223372036854775807) ∧ ∀ s4 : ByteArray, s4 = sa0 ++ (ByteArray.mk #[64]) → (((ByteArray.size s4 + ByteArray.size sa1 : Nat) : Int) ≤ 9223372036854775807) ∧ ∀ s5 : ByteArray, s5 = s4 ++ sa1 → Q (.string s5) h3)) ∨ (r2 = (.bool false) ∧
    (Q (.string (ByteArray.mk #[])) h3))))))) ∨ (r0 = (.bool false) ∧
    (Q (.string (ByteArray.mk #[])) h1))))) :
    Wf Try.prog K 57 [(.string sa0), (.string sa1)] h Q :=
  vcF_sound (hs := []) hk (Eq.mpr (by kernel_rfl) H)
theorem vc_ptr_Right {K : Xs} (hk : K 75 = none) (ia0_0 : Int) (ia0_1 : Int) (ia0_2 : Int) (h : AH) (Q : Value → AH → Prop) (H :
    ∀ h0 : AH, h0 = h.alloc (.cells ([(.int .i64 ia0_0), (.int .u64 ia0_1), (.int .u32 ia0_2)] : List Value) 25 false) →
    ∃ i1 : Int, ∃ i2 : Int, ∃ i3 : Int, ldN h0 h.next 0 3 = some ([(.int .i64 i1), (.int .u64 i2), (.int .u32 i3)] : List Value) ∧
    (∃ la4 lb5, keyA Try.prog 25 (.agg #[(.int .i64 i1), (.int .u64 i2), (.int .u32 i3)]) = some la4 ∧ keyA Try.prog 25 (.agg #[(.int .i64 0), (.int .u64 0), (.int .u32 0)]) = some lb5 ∧
    (litsEq la4 lb5 = true → Q (.bool true) h0) ∧
    (litsEq la4 lb5 = false → ∃ i6 : Int, ld1 h0 h.next 0 = some (.int .i64 i6) ∧
    (((4 : Int) ≤ i6 → ∃ i7 : Int, ld1 h0 h.next 0 = some (.int .i64 i7) ∧
    (((i7 : Int) < 1024 → ∃ i8 : Int, ld1 h0 h.next 1 = some (.int .u64 i8) ∧
    (((1 : Int) ≤ i8 → ∃ i9 : Int, ld1 h0 h.next 1 = some (.int .u64 i9) ∧
    (((i9 : Int) ≤ 281474976710655 → Q (.bool true) h0) ∧
    (¬ (i9 : Int) ≤ 281474976710655 → Q (.bool false) h0))) ∧
    (¬ (1 : Int) ≤ i8 → Q (.bool false) h0))) ∧
    (¬ (i7 : Int) < 1024 → Q (.bool false) h0))) ∧
    (¬ (4 : Int) ≤ i6 → Q (.bool false) h0))))) :
    Wf Try.prog K 75 [(.agg #[(.int .i64 ia0_0), (.int .u64 ia0_1), (.int .u32 ia0_2)])] h Q :=
  vcF_sound (hs := []) hk (Eq.mpr (by kernel_rfl) H)
theorem vc_ptr_Less {K : Xs} (hk : K 104 = none) (ia0_0 : Int) (ia0_1 : Int) (ia0_2 : Int) (ia1_0 : Int) (ia1_1 : Int) (ia1_2 : Int) (h : AH) (Q : Value → AH → Prop) (H :
    ∀ h0 : AH, h0 = h.alloc (.cells ([(.int .i64 ia0_0), (.int .u64 ia0_1), (.int .u32 ia0_2)] : List Value) 25 false) →
    ∀ h1 : AH, h1 = h0.alloc (.cells ([(.int .i64 ia1_0), (.int .u64 ia1_1), (.int .u32 ia1_2)] : List Value) 25 false) →
    ∃ i2 : Int, ld1 h1 h.next 1 = some (.int .u64 i2) ∧
    (∃ i3 : Int, ld1 h1 h0.next 1 = some (.int .u64 i3) ∧
    (((i2 : Int) = i3 → ∃ i4 : Int, ld1 h1 h.next 0 = some (.int .i64 i4) ∧
    (∃ i5 : Int, ld1 h1 h0.next 0 = some (.int .i64 i5) ∧
    (((i4 : Int) = i5 → ∃ i6 : Int, ld1 h1 h.next 2 = some (.int .u32 i6) ∧
    (∃ i7 : Int, ld1 h1 h0.next 2 = some (.int .u32 i7) ∧
    (((i6 : Int) < i7 → Q (.bool true) h1) ∧
    (¬ (i6 : Int) < i7 → Q (.bool false) h1)))) ∧
    (¬ (i4 : Int) = i5 → ∃ i8 : Int, ld1 h1 h.next 0 = some (.int .i64 i8) ∧
    (∃ i9 : Int, ld1 h1 h0.next 0 = some (.int .i64 i9) ∧
    (((i8 : Int) < i9 → Q (.bool true) h1) ∧
    (¬ (i8 : Int) < i9 → Q (.bool false) h1))))))) ∧
    (¬ (i2 : Int) = i3 → ∃ i10 : Int, ld1 h1 h.next 1 = some (.int .u64 i10) ∧
    (∃ i11 : Int, ld1 h1 h0.next 1 = some (.int .u64 i11) ∧
    (((i10 : Int) < i11 → Q (.bool true) h1) ∧
    (¬ (i10 : Int) < i11 → Q (.bool false) h1))))))) :
    Wf Try.prog K 104 [(.agg #[(.int .i64 ia0_0), (.int .u64 ia0_1), (.int .u32 ia0_2)]), (.agg #[(.int .i64 ia1_0), (.int .u64 ia1_1), (.int .u32 ia1_2)])] h Q :=
  vcF_sound (hs := []) hk (Eq.mpr (by kernel_rfl) H)
theorem vc_dead_Right {K : Xs} (hk : K 76 = none) (pa0 : Option Addr) (na0 ca0 : Nat) (h : AH) (Q : Value → AH → Prop) (H :
    ∃ I0 : Int → Nat → AH → Prop, (∃ n, I0 0 n h) ∧
    ∀ (k1 : Nat) (h2 : AH) (i4 : Int), I0 i4 k1 h2 →
    ((i4 : Int) < ((na0 : Nat) : Int) → derefP pa0 fun b5 o6 => (((0 : Int) ≤ i4) ∧ ((i4 : Int) < ((na0 : Nat) : Int)) ∧
    (∃ i7 : Int, ∃ i8 : Int, ∃ i9 : Int, ldN h2 b5 (o6 + Int.toNat i4 * 3) 3 = some ([(.int .i64 i7), (.int .u64 i8), (.int .u32 i9)] : List Value) ∧
    (∀ h10 : AH, h10 = h2.alloc (.cells ([(.int .i64 0), (.int .u64 0), (.int .u32 0)] : List Value) 25 false) →
    (List.length ([(.int .i64 i7), (.int .u64 i8), (.int .u32 i9)] : List Value) = 3) ∧ ∃ h11 : AH, stN h10 h2.next 0 ([(.int .i64 i7), (.int .u64 i8), (.int .u32 i9)] : List Value) = some h11 ∧
    (∃ i12 : Int, ∃ i13 : Int, ∃ i14 : Int, ldN h11 h2.next 0 3 = some ([(.int .i64 i12), (.int .u64 i13), (.int .u32 i14)] : List Value) ∧
    (Wf Try.prog K 103 [(.agg #[(.int .i64 i12), (.int .u64 i13), (.int .u32 i14)])] h11 fun r15 h16 =>
    (((r15 = (.bool true) ∧
    (((0 : Int) < i4 → ∀ i17 : Int, i17 = IntKind.wrap .i64 (i4 - 1) → derefP pa0 fun b18 o19 => (((0 : Int) ≤ i17) ∧ ((i17 : Int) < ((na0 : Nat) : Int)) ∧
    (∃ i20 : Int, ∃ i21 : Int, ∃ i22 : Int, ldN h16 b18 (o19 + Int.toNat i17 * 3) 3 = some ([(.int .i64 i20), (.int .u64 i21), (.int .u32 i22)] : List Value) ∧
    (∃ i23 : Int, ∃ i24 : Int, ∃ i25 : Int, ldN h16 h2.next 0 3 = some ([(.int .i64 i23), (.int .u64 i24), (.int .u32 i25)] : List Value) ∧
    (Wf Try.prog K 104 [(.agg #[(.int .i64 i20), (.int .u64 i21), (.int .u32 i22)]), (.agg #[(.int .i64 i23), (.int .u64 i24), (.int .u32 i25)])] h16 fun r26 h27 =>
    (((r26 = (.bool true) ∧
    (∀ i28 : Int, i28 = IntKind.wrap .i64 (i4 + 1) → ∃ j3, j3 < k1 ∧ I0 i28 j3 h27)) ∨ (r26 = (.bool false) ∧
    (Q (.bool false) h27))))))))) ∧
    (¬ (0 : Int) < i4 → ∀ i29 : Int, i29 = IntKind.wrap .i64 (i4 + 1) → ∃ j3, j3 < k1 ∧ I0 i29 j3 h16))) ∨ (r15 = (.bool false) ∧
    (Q (.bool false) h16)))))))))) ∧
    (¬ (i4 : Int) < ((na0 : Nat) : Int) → Q (.bool true) h2)) :
    Wf Try.prog K 76 [(.slice pa0 na0 ca0)] h Q :=
  vcF_sound (hs := [(2, [(7, .int .i64 0)])]) hk (Eq.mpr (by kernel_rfl) H)
theorem vc_dead_fits {K : Xs} (hk : K 103 = none) (ia0_0 : Int) (ia0_1 : Int) (ia0_2 : Int) (h : AH) (Q : Value → AH → Prop) (H :
    ∀ h0 : AH, h0 = h.alloc (.cells ([(.int .i64 ia0_0), (.int .u64 ia0_1), (.int .u32 ia0_2)] : List Value) 25 false) →
    ∃ i1 : Int, ∃ i2 : Int, ∃ i3 : Int, ldN h0 h.next 0 3 = some ([(.int .i64 i1), (.int .u64 i2), (.int .u32 i3)] : List Value) ∧
    (∃ la4 lb5, keyA Try.prog 25 (.agg #[(.int .i64 i1), (.int .u64 i2), (.int .u32 i3)]) = some la4 ∧ keyA Try.prog 25 (.agg #[(.int .i64 0), (.int .u64 0), (.int .u32 0)]) = some lb5 ∧
    (litsEq la4 lb5 = true → Q (.bool false) h0) ∧
    (litsEq la4 lb5 = false → ∃ i6 : Int, ∃ i7 : Int, ∃ i8 : Int, ldN h0 h.next 0 3 = some ([(.int .i64 i6), (.int .u64 i7), (.int .u32 i8)] : List Value) ∧
    (Wf Try.prog K 75 [(.agg #[(.int .i64 i6), (.int .u64 i7), (.int .u32 i8)])] h0 fun r9 h10 =>
    (((r9 = (.bool true) ∧
    (Q (.bool true) h10)) ∨ (r9 = (.bool false) ∧
    (Q (.bool false) h10)))))))) :
    Wf Try.prog K 103 [(.agg #[(.int .i64 ia0_0), (.int .u64 ia0_1), (.int .u32 ia0_2)])] h Q :=
  vcF_sound (hs := []) hk (Eq.mpr (by kernel_rfl) H)
theorem vc_strings_Cut {K : Xs} (hk : K 73 = none) (sa0 : ByteArray) (sa1 : ByteArray) (h : AH) (Q : Value → AH → Prop) (H :
    Wf Try.prog K 102 [(.string sa0), (.string sa1)] h fun r0 h1 =>
    (∃ s2 : ByteArray, ∃ s3 : ByteArray, ((r0 = (.tuple #[(.string s2), (.string s3), (.bool true)]) ∧
    (Q (.tuple #[(.string s2), (.string s3), (.bool true)]) h1)) ∨ (r0 = (.tuple #[(.string s2), (.string s3), (.bool false)]) ∧
    (Q (.tuple #[(.string s2), (.string s3), (.bool false)]) h1))))) :
    Wf Try.prog K 73 [(.string sa0), (.string sa1)] h Q :=
  vcF_sound (hs := []) hk (Eq.mpr (by kernel_rfl) H)
theorem vc_stringslite_Cut {K : Xs} (hk : K 102 = none) (sa0 : ByteArray) (sa1 : ByteArray) (h : AH) (Q : Value → AH → Prop) (H :
    Wf Try.prog K 112 [(.string sa0), (.string sa1)] h fun r0 h1 =>
    (∃ i2 : Int, r0 = (.int .i64 i2) ∧
    (((0 : Int) ≤ i2 → ∃ s3 : ByteArray, aSlice Try.prog h1 9 (.string sa0) none (some (.int .i64 i2)) none = some (.string s3) ∧
    (∀ i4 : Int, i4 = IntKind.wrap .i64 (i2 + ((ByteArray.size sa1 : Nat) : Int)) → ∃ s5 : ByteArray, aSlice Try.prog h1 9 (.string sa0) (some (.int .i64 i4)) none none = some (.string s5) ∧
    (Q (.tuple #[(.string s3), (.string s5), (.bool true)]) h1))) ∧
    (¬ (0 : Int) ≤ i2 → Q (.tuple #[(.string sa0), (.string (ByteArray.mk #[])), (.bool false)]) h1)))) :
    Wf Try.prog K 102 [(.string sa0), (.string sa1)] h Q :=
  vcF_sound (hs := []) hk (Eq.mpr (by kernel_rfl) H)
theorem vc_stringslite_Index {K : Xs} (hk : K 112 = none) (sa0 : ByteArray) (sa1 : ByteArray) (h : AH) (Q : Value → AH → Prop) (H :
    ((((ByteArray.size sa1 : Nat) : Int) : Int) = 0 → Q (.int .i64 0) h) ∧
    (¬ (((ByteArray.size sa1 : Nat) : Int) : Int) = 0 → (sa1 = sa0 → Q (.int .i64 0) h) ∧
    (¬ sa1 = sa0 → ((((ByteArray.size sa1 : Nat) : Int) : Int) = 1 → ((0 : Int) ≤ 0) ∧ ∃ c0 : UInt8, sa1[Int.toNat 0]? = some c0 ∧
    (Wf Try.prog K 114 [(.string sa0), (.int .u8 ((c0.toNat : Nat) : Int))] h fun r1 h2 =>
    (∃ i3 : Int, r1 = (.int .i64 i3) ∧
    (Q (.int .i64 i3) h2)))) ∧
    (¬ (((ByteArray.size sa1 : Nat) : Int) : Int) = 1 → ((((ByteArray.size sa0 : Nat) : Int) : Int) ≤ ((ByteArray.size sa1 : Nat) : Int) → Q (.int .i64 (-1)) h) ∧
    (¬ (((ByteArray.size sa0 : Nat) : Int) : Int) ≤ ((ByteArray.size sa1 : Nat) : Int) → False))))) :
    Wf Try.prog K 112 [(.string sa0), (.string sa1)] h Q :=
  vcF_sound (hs := []) hk (Eq.mpr (by kernel_rfl) H)
theorem vc_stringslite_IndexByte {K : Xs} (hk : K 114 = none) (sa0 : ByteArray) (ia1 : Int) (h : AH) (Q : Value → AH → Prop) (H :
    Wf Try.prog K 118 [(.string sa0), (.int .u8 ia1)] h fun r0 h1 =>
    (∃ i2 : Int, r0 = (.int .i64 i2) ∧
    (Q (.int .i64 i2) h1))) :
    Wf Try.prog K 114 [(.string sa0), (.int .u8 ia1)] h Q :=
  vcF_sound (hs := []) hk (Eq.mpr (by kernel_rfl) H)
theorem vc_aquiferlaw16_FamilyFloors {K : Xs} (hk : K 6 = none) (pa0 : Option Addr) (na0 ca0 : Nat) (h : AH) (Q : Value → AH → Prop) (H :
    Wf Try.prog K 12 [] h fun r0 h1 =>
    (((r0 = (.bool true) ∧
    (((40 : Int) < ((na0 : Nat) : Int) → Q (.bool true) h1) ∧
    (¬ (40 : Int) < ((na0 : Nat) : Int) → Wf Try.prog K 13 [(.int .u64 281474976710655), (.slice pa0 na0 ca0)] h1 fun r2 h3 =>
    (((r2 = (.bool true) ∧
    (∃ I4 : Int → Nat → AH → Prop, (∃ n, I4 0 n h3) ∧
    ∀ (k5 : Nat) (h6 : AH) (i8 : Int), I4 i8 k5 h6 →
    ((i8 : Int) < ((na0 : Nat) : Int) → derefP pa0 fun b9 o10 => (((0 : Int) ≤ i8) ∧ ((i8 : Int) < ((na0 : Nat) : Int)) ∧
    (∃ i11 : Int, ∃ s12 : ByteArray, ∃ b13 : Bool, ∃ i14 : Int, ∃ i15 : Int, ∃ i16 : Int, ∃ i17 : Int, ∃ i18 : Int, ∃ i19 : Int, ∃ i20 : Int, ∃ (p21 : Option Addr) (n22 c23 : Nat), ldN h6 b9 (o10 + Int.toNat i8 * 11) 11 = some ([(.int .u64 i11), (.string s12), (.bool b13), (.int .u64 i14), (.int .u64 i15), (.int .u64 i16), (.int .i64 i17), (.int .i64 i18), (.int .u64 i19), (.int .u32 i20), (.slice p21 n22 c23)] : List Value) ∧
    (∀ h24 : AH, h24 = h6.alloc (.cells ([(.int .u64 0), (.string (ByteArray.mk #[])), (.bool false), (.int .u64 0), (.int .u64 0), (.int .u64 0), (.int .i64 0), (.int .i64 0), (.int .u64 0), (.int .u32 0), (.slice none 0 0)] : List Value) 28 false) →
    (List.length ([(.int .u64 i11), (.string s12), (.bool b13), (.int .u64 i14), (.int .u64 i15), (.int .u64 i16), (.int .i64 i17), (.int .i64 i18), (.int .u64 i19), (.int .u32 i20), (.slice p21 n22 c23)] : List Value) = 11) ∧ ∃ h25 : AH, stN h24 h6.next 0 ([(.int .u64 i11), (.string s12), (.bool b13), (.int .u64 i14), (.int .u64 i15), (.int .u64 i16), (.int .i64 i17), (.int .i64 i18), (.int .u64 i19), (.int .u32 i20), (.slice p21 n22 c23)] : List Value) = some h25 ∧
    (∃ i26 : Int, ld1 h25 h6.next 0 = some (.int .u64 i26) ∧
    (Wf Try.prog K 19 [(.slice pa0 na0 ca0), (.int .u64 i26)] h25 fun r27 h28 =>
    (∃ i29 : Int, r27 = (.int .u64 i29) ∧
    (∃ i30 : Int, ld1 h28 h6.next 4 = some (.int .u64 i30) ∧
    (Wf Try.prog K 17 [(.slice pa0 na0 ca0), (.int .u64 i30)] h28 fun r31 h32 =>
    (∃ i33 : Int, ∃ s34 : ByteArray, ∃ b35 : Bool, ∃ i36 : Int, ∃ i37 : Int, ∃ i38 : Int, ∃ i39 : Int, ∃ i40 : Int, ∃ i41 : Int, ∃ i42 : Int, ∃ (p43 : Option Addr) (n44 c45 : Nat), ((r31 = (.tuple #[(.agg #[(.int .u64 i33), (.string s34), (.bool b35), (.int .u64 i36), (.int .u64 i37), (.int .u64 i38), (.int .i64 i39), (.int .i64 i40), (.int .u64 i41), (.int .u32 i42), (.slice p43 n44 c45)]), (.bool true)]) ∧
    (∀ h46 : AH, h46 = h32.alloc (.cells ([(.int .u64 0), (.string (ByteArray.mk #[])), (.bool false), (.int .u64 0), (.int .u64 0), (.int .u64 0), (.int .i64 0), (.int .i64 0), (.int .u64 0), (.int .u32 0), (.slice none 0 0)] : List Value) 28 false) →
    (List.length ([(.int .u64 i33), (.string s34), (.bool b35), (.int .u64 i36), (.int .u64 i37), (.int .u64 i38), (.int .i64 i39), (.int .i64 i40), (.int .u64 i41), (.int .u32 i42), (.slice p43 n44 c45)] : List Value) = 11) ∧ ∃ h47 : AH, stN h46 h32.next 0 ([(.int .u64 i33), (.string s34), (.bool b35), (.int .u64 i36), (.int .u64 i37), (.int .u64 i38), (.int .i64 i39), (.int .i64 i40), (.int .u64 i41), (.int .u32 i42), (.slice p43 n44 c45)] : List Value) = some h47 ∧
    (∃ i48 : Int, ld1 h47 h6.next 4 = some (.int .u64 i48) ∧
    (((i48 : Int) = 0 → Q (.bool false) h47) ∧
    (¬ (i48 : Int) = 0 → ∃ i49 : Int, ld1 h47 h32.next 5 = some (.int .u64 i49) ∧
    (((i29 : Int) = i49 → ((ld1 h47 h6.next 2 = some (.bool true) ∧
    (∃ i50 : Int, ld1 h47 h6.next 5 = some (.int .u64 i50) ∧
    (((i50 : Int) ≤ i29 → Q (.bool false) h47) ∧
    (¬ (i50 : Int) ≤ i29 → ∃ (p51 : Option Addr) (n52 c53 : Nat), ld1 h47 h6.next 10 = some (.slice p51 n52 c53) ∧
    (∃ I54 : Int → Nat → AH → Prop, (∃ n, I54 0 n h47) ∧
    ∀ (k55 : Nat) (h56 : AH) (i58 : Int), I54 i58 k55 h56 →
    ((i58 : Int) < ((n52 : Nat) : Int) → derefP p51 fun b59 o60 => (((0 : Int) ≤ i58) ∧ ((i58 : Int) < ((n52 : Nat) : Int)) ∧
    (∃ i61 : Int, ∃ i62 : Int, ∃ i63 : Int, ldN h56 b59 (o60 + Int.toNat i58 * 3) 3 = some ([(.int .i64 i61), (.int .u64 i62), (.int .u32 i63)] : List Value) ∧
    (∀ h64 : AH, h64 = h56.alloc (.cells ([(.int .i64 0), (.int .u64 0), (.int .u32 0)] : List Value) 25 false) →
    (List.length ([(.int .i64 i61), (.int .u64 i62), (.int .u32 i63)] : List Value) = 3) ∧ ∃ h65 : AH, stN h64 h56.next 0 ([(.int .i64 i61), (.int .u64 i62), (.int .u32 i63)] : List Value) = some h65 ∧
    (∃ i66 : Int, ld1 h65 h56.next 1 = some (.int .u64 i66) ∧
    (((i29 : Int) < i66 → Q (.bool false) h65) ∧
    (¬ (i29 : Int) < i66 → ∀ i67 : Int, i67 = IntKind.wrap .i64 (i58 + 1) → ∃ j57, j57 < k55 ∧ I54 i67 j57 h65))))))) ∧
    (¬ (i58 : Int) < ((n52 : Nat) : Int) → ∃ I68 : Int → Nat → AH → Prop, (∃ n, I68 0 n h56) ∧
    ∀ (k69 : Nat) (h70 : AH) (i72 : Int), I68 i72 k69 h70 →
    ((i72 : Int) < ((na0 : Nat) : Int) → derefP pa0 fun b73 o74 => (((0 : Int) ≤ i72) ∧ ((i72 : Int) < ((na0 : Nat) : Int)) ∧
    (∃ i75 : Int, ∃ s76 : ByteArray, ∃ b77 : Bool, ∃ i78 : Int, ∃ i79 : Int, ∃ i80 : Int, ∃ i81 : Int, ∃ i82 : Int, ∃ i83 : Int, ∃ i84 : Int, ∃ (p85 : Option Addr) (n86 c87 : Nat), ldN h70 b73 (o74 + Int.toNat i72 * 11) 11 = some ([(.int .u64 i75), (.string s76), (.bool b77), (.int .u64 i78), (.int .u64 i79), (.int .u64 i80), (.int .i64 i81), (.int .i64 i82), (.int .u64 i83), (.int .u32 i84), (.slice p85 n86 c87)] : List Value) ∧
    (∀ h88 : AH, h88 = h70.alloc (.cells ([(.int .u64 0), (.string (ByteArray.mk #[])), (.bool false), (.int .u64 0), (.int .u64 0), (.int .u64 0), (.int .i64 0), (.int .i64 0), (.int .u64 0), (.int .u32 0), (.slice none 0 0)] : List Value) 28 false) →
    (List.length ([(.int .u64 i75), (.string s76), (.bool b77), (.int .u64 i78), (.int .u64 i79), (.int .u64 i80), (.int .i64 i81), (.int .i64 i82), (.int .u64 i83), (.int .u32 i84), (.slice p85 n86 c87)] : List Value) = 11) ∧ ∃ h89 : AH, stN h88 h70.next 0 ([(.int .u64 i75), (.string s76), (.bool b77), (.int .u64 i78), (.int .u64 i79), (.int .u64 i80), (.int .i64 i81), (.int .i64 i82), (.int .u64 i83), (.int .u32 i84), (.slice p85 n86 c87)] : List Value) = some h89 ∧
    (∃ i90 : Int, ld1 h89 h70.next 4 = some (.int .u64 i90) ∧
    (∃ i91 : Int, ld1 h89 h6.next 4 = some (.int .u64 i91) ∧
    (((i90 : Int) = i91 → ∃ i92 : Int, ld1 h89 h70.next 0 = some (.int .u64 i92) ∧
    (Wf Try.prog K 19 [(.slice pa0 na0 ca0), (.int .u64 i92)] h89 fun r93 h94 =>
    (∃ i95 : Int, r93 = (.int .u64 i95) ∧
    (((i95 : Int) = i29 → ∀ i96 : Int, i96 = IntKind.wrap .i64 (i72 + 1) → ∃ j71, j71 < k69 ∧ I68 i96 j71 h94) ∧
    (¬ (i95 : Int) = i29 → Q (.bool false) h94))))) ∧
    (¬ (i90 : Int) = i91 → ∀ i97 : Int, i97 = IntKind.wrap .i64 (i72 + 1) → ∃ j71, j71 < k69 ∧ I68 i97 j71 h89)))))))) ∧
    (¬ (i72 : Int) < ((na0 : Nat) : Int) → ∀ i98 : Int, i98 = IntKind.wrap .i64 (i8 + 1) → ∃ j7, j7 < k5 ∧ I4 i98 j7 h70))))))) ∨ (ld1 h47 h6.next 2 = some (.bool false) ∧
    (∃ (p99 : Option Addr) (n100 c101 : Nat), ld1 h47 h6.next 10 = some (.slice p99 n100 c101) ∧
    (∃ I102 : Int → Nat → AH → Prop, (∃ n, I102 0 n h47) ∧
    ∀ (k103 : Nat) (h104 : AH) (i106 : Int), I102 i106 k103 h104 →
    ((i106 : Int) < ((n100 : Nat) : Int) → derefP p99 fun b107 o108 => (((0 : Int) ≤ i106) ∧ ((i106 : Int) < ((n100 : Nat) : Int)) ∧
    (∃ i109 : Int, ∃ i110 : Int, ∃ i111 : Int, ldN h104 b107 (o108 + Int.toNat i106 * 3) 3 = some ([(.int .i64 i109), (.int .u64 i110), (.int .u32 i111)] : List Value) ∧
    (∀ h112 : AH, h112 = h104.alloc (.cells ([(.int .i64 0), (.int .u64 0), (.int .u32 0)] : List Value) 25 false) →
    (List.length ([(.int .i64 i109), (.int .u64 i110), (.int .u32 i111)] : List Value) = 3) ∧ ∃ h113 : AH, stN h112 h104.next 0 ([(.int .i64 i109), (.int .u64 i110), (.int .u32 i111)] : List Value) = some h113 ∧
    (∃ i114 : Int, ld1 h113 h104.next 1 = some (.int .u64 i114) ∧
    (((i29 : Int) < i114 → Q (.bool false) h113) ∧
    (¬ (i29 : Int) < i114 → ∀ i115 : Int, i115 = IntKind.wrap .i64 (i106 + 1) → ∃ j105, j105 < k103 ∧ I102 i115 j105 h113))))))) ∧
    (¬ (i106 : Int) < ((n100 : Nat) : Int) → ∃ I116 : Int → Nat → AH → Prop, (∃ n, I116 0 n h104) ∧
    ∀ (k117 : Nat) (h118 : AH) (i120 : Int), I116 i120 k117 h118 →
    ((i120 : Int) < ((na0 : Nat) : Int) → derefP pa0 fun b121 o122 => (((0 : Int) ≤ i120) ∧ ((i120 : Int) < ((na0 : Nat) : Int)) ∧
    (∃ i123 : Int, ∃ s124 : ByteArray, ∃ b125 : Bool, ∃ i126 : Int, ∃ i127 : Int, ∃ i128 : Int, ∃ i129 : Int, ∃ i130 : Int, ∃ i131 : Int, ∃ i132 : Int, ∃ (p133 : Option Addr) (n134 c135 : Nat), ldN h118 b121 (o122 + Int.toNat i120 * 11) 11 = some ([(.int .u64 i123), (.string s124), (.bool b125), (.int .u64 i126), (.int .u64 i127), (.int .u64 i128), (.int .i64 i129), (.int .i64 i130), (.int .u64 i131), (.int .u32 i132), (.slice p133 n134 c135)] : List Value) ∧
    (∀ h136 : AH, h136 = h118.alloc (.cells ([(.int .u64 0), (.string (ByteArray.mk #[])), (.bool false), (.int .u64 0), (.int .u64 0), (.int .u64 0), (.int .i64 0), (.int .i64 0), (.int .u64 0), (.int .u32 0), (.slice none 0 0)] : List Value) 28 false) →
    (List.length ([(.int .u64 i123), (.string s124), (.bool b125), (.int .u64 i126), (.int .u64 i127), (.int .u64 i128), (.int .i64 i129), (.int .i64 i130), (.int .u64 i131), (.int .u32 i132), (.slice p133 n134 c135)] : List Value) = 11) ∧ ∃ h137 : AH, stN h136 h118.next 0 ([(.int .u64 i123), (.string s124), (.bool b125), (.int .u64 i126), (.int .u64 i127), (.int .u64 i128), (.int .i64 i129), (.int .i64 i130), (.int .u64 i131), (.int .u32 i132), (.slice p133 n134 c135)] : List Value) = some h137 ∧
    (∃ i138 : Int, ld1 h137 h118.next 4 = some (.int .u64 i138) ∧
    (∃ i139 : Int, ld1 h137 h6.next 4 = some (.int .u64 i139) ∧
    (((i138 : Int) = i139 → ∃ i140 : Int, ld1 h137 h118.next 0 = some (.int .u64 i140) ∧
    (Wf Try.prog K 19 [(.slice pa0 na0 ca0), (.int .u64 i140)] h137 fun r141 h142 =>
    (∃ i143 : Int, r141 = (.int .u64 i143) ∧
    (((i143 : Int) = i29 → ∀ i144 : Int, i144 = IntKind.wrap .i64 (i120 + 1) → ∃ j119, j119 < k117 ∧ I116 i144 j119 h142) ∧
    (¬ (i143 : Int) = i29 → Q (.bool false) h142))))) ∧
    (¬ (i138 : Int) = i139 → ∀ i145 : Int, i145 = IntKind.wrap .i64 (i120 + 1) → ∃ j119, j119 < k117 ∧ I116 i145 j119 h137)))))))) ∧
    (¬ (i120 : Int) < ((na0 : Nat) : Int) → ∀ i146 : Int, i146 = IntKind.wrap .i64 (i8 + 1) → ∃ j7, j7 < k5 ∧ I4 i146 j7 h118))))))) ∧
    (¬ (i29 : Int) = i49 → Q (.bool false) h47))))))) ∨ (r31 = (.tuple #[(.agg #[(.int .u64 i33), (.string s34), (.bool b35), (.int .u64 i36), (.int .u64 i37), (.int .u64 i38), (.int .i64 i39), (.int .i64 i40), (.int .u64 i41), (.int .u32 i42), (.slice p43 n44 c45)]), (.bool false)]) ∧
    (∀ h147 : AH, h147 = h32.alloc (.cells ([(.int .u64 0), (.string (ByteArray.mk #[])), (.bool false), (.int .u64 0), (.int .u64 0), (.int .u64 0), (.int .i64 0), (.int .i64 0), (.int .u64 0), (.int .u32 0), (.slice none 0 0)] : List Value) 28 false) →
    (List.length ([(.int .u64 i33), (.string s34), (.bool b35), (.int .u64 i36), (.int .u64 i37), (.int .u64 i38), (.int .i64 i39), (.int .i64 i40), (.int .u64 i41), (.int .u32 i42), (.slice p43 n44 c45)] : List Value) = 11) ∧ ∃ h148 : AH, stN h147 h32.next 0 ([(.int .u64 i33), (.string s34), (.bool b35), (.int .u64 i36), (.int .u64 i37), (.int .u64 i38), (.int .i64 i39), (.int .i64 i40), (.int .u64 i41), (.int .u32 i42), (.slice p43 n44 c45)] : List Value) = some h148 ∧
    (∃ i149 : Int, ld1 h148 h6.next 4 = some (.int .u64 i149) ∧
    (((i149 : Int) = 0 → ((i29 : Int) = 0 → ((ld1 h148 h6.next 2 = some (.bool true) ∧
    (∃ i150 : Int, ld1 h148 h6.next 5 = some (.int .u64 i150) ∧
    (((i150 : Int) ≤ i29 → Q (.bool false) h148) ∧
    (¬ (i150 : Int) ≤ i29 → ∃ (p151 : Option Addr) (n152 c153 : Nat), ld1 h148 h6.next 10 = some (.slice p151 n152 c153) ∧
    (∃ I154 : Int → Nat → AH → Prop, (∃ n, I154 0 n h148) ∧
    ∀ (k155 : Nat) (h156 : AH) (i158 : Int), I154 i158 k155 h156 →
    ((i158 : Int) < ((n152 : Nat) : Int) → derefP p151 fun b159 o160 => (((0 : Int) ≤ i158) ∧ ((i158 : Int) < ((n152 : Nat) : Int)) ∧
    (∃ i161 : Int, ∃ i162 : Int, ∃ i163 : Int, ldN h156 b159 (o160 + Int.toNat i158 * 3) 3 = some ([(.int .i64 i161), (.int .u64 i162), (.int .u32 i163)] : List Value) ∧
    (∀ h164 : AH, h164 = h156.alloc (.cells ([(.int .i64 0), (.int .u64 0), (.int .u32 0)] : List Value) 25 false) →
    (List.length ([(.int .i64 i161), (.int .u64 i162), (.int .u32 i163)] : List Value) = 3) ∧ ∃ h165 : AH, stN h164 h156.next 0 ([(.int .i64 i161), (.int .u64 i162), (.int .u32 i163)] : List Value) = some h165 ∧
    (∃ i166 : Int, ld1 h165 h156.next 1 = some (.int .u64 i166) ∧
    (((i29 : Int) < i166 → Q (.bool false) h165) ∧
    (¬ (i29 : Int) < i166 → ∀ i167 : Int, i167 = IntKind.wrap .i64 (i158 + 1) → ∃ j157, j157 < k155 ∧ I154 i167 j157 h165))))))) ∧
    (¬ (i158 : Int) < ((n152 : Nat) : Int) → ∃ I168 : Int → Nat → AH → Prop, (∃ n, I168 0 n h156) ∧
    ∀ (k169 : Nat) (h170 : AH) (i172 : Int), I168 i172 k169 h170 →
    ((i172 : Int) < ((na0 : Nat) : Int) → derefP pa0 fun b173 o174 => (((0 : Int) ≤ i172) ∧ ((i172 : Int) < ((na0 : Nat) : Int)) ∧
    (∃ i175 : Int, ∃ s176 : ByteArray, ∃ b177 : Bool, ∃ i178 : Int, ∃ i179 : Int, ∃ i180 : Int, ∃ i181 : Int, ∃ i182 : Int, ∃ i183 : Int, ∃ i184 : Int, ∃ (p185 : Option Addr) (n186 c187 : Nat), ldN h170 b173 (o174 + Int.toNat i172 * 11) 11 = some ([(.int .u64 i175), (.string s176), (.bool b177), (.int .u64 i178), (.int .u64 i179), (.int .u64 i180), (.int .i64 i181), (.int .i64 i182), (.int .u64 i183), (.int .u32 i184), (.slice p185 n186 c187)] : List Value) ∧
    (∀ h188 : AH, h188 = h170.alloc (.cells ([(.int .u64 0), (.string (ByteArray.mk #[])), (.bool false), (.int .u64 0), (.int .u64 0), (.int .u64 0), (.int .i64 0), (.int .i64 0), (.int .u64 0), (.int .u32 0), (.slice none 0 0)] : List Value) 28 false) →
    (List.length ([(.int .u64 i175), (.string s176), (.bool b177), (.int .u64 i178), (.int .u64 i179), (.int .u64 i180), (.int .i64 i181), (.int .i64 i182), (.int .u64 i183), (.int .u32 i184), (.slice p185 n186 c187)] : List Value) = 11) ∧ ∃ h189 : AH, stN h188 h170.next 0 ([(.int .u64 i175), (.string s176), (.bool b177), (.int .u64 i178), (.int .u64 i179), (.int .u64 i180), (.int .i64 i181), (.int .i64 i182), (.int .u64 i183), (.int .u32 i184), (.slice p185 n186 c187)] : List Value) = some h189 ∧
    (∃ i190 : Int, ld1 h189 h170.next 4 = some (.int .u64 i190) ∧
    (∃ i191 : Int, ld1 h189 h6.next 4 = some (.int .u64 i191) ∧
    (((i190 : Int) = i191 → ∃ i192 : Int, ld1 h189 h170.next 0 = some (.int .u64 i192) ∧
    (Wf Try.prog K 19 [(.slice pa0 na0 ca0), (.int .u64 i192)] h189 fun r193 h194 =>
    (∃ i195 : Int, r193 = (.int .u64 i195) ∧
    (((i195 : Int) = i29 → ∀ i196 : Int, i196 = IntKind.wrap .i64 (i172 + 1) → ∃ j171, j171 < k169 ∧ I168 i196 j171 h194) ∧
    (¬ (i195 : Int) = i29 → Q (.bool false) h194))))) ∧
    (¬ (i190 : Int) = i191 → ∀ i197 : Int, i197 = IntKind.wrap .i64 (i172 + 1) → ∃ j171, j171 < k169 ∧ I168 i197 j171 h189)))))))) ∧
    (¬ (i172 : Int) < ((na0 : Nat) : Int) → ∀ i198 : Int, i198 = IntKind.wrap .i64 (i8 + 1) → ∃ j7, j7 < k5 ∧ I4 i198 j7 h170))))))) ∨ (ld1 h148 h6.next 2 = some (.bool false) ∧
    (∃ (p199 : Option Addr) (n200 c201 : Nat), ld1 h148 h6.next 10 = some (.slice p199 n200 c201) ∧
    (∃ I202 : Int → Nat → AH → Prop, (∃ n, I202 0 n h148) ∧
    ∀ (k203 : Nat) (h204 : AH) (i206 : Int), I202 i206 k203 h204 →
    ((i206 : Int) < ((n200 : Nat) : Int) → derefP p199 fun b207 o208 => (((0 : Int) ≤ i206) ∧ ((i206 : Int) < ((n200 : Nat) : Int)) ∧
    (∃ i209 : Int, ∃ i210 : Int, ∃ i211 : Int, ldN h204 b207 (o208 + Int.toNat i206 * 3) 3 = some ([(.int .i64 i209), (.int .u64 i210), (.int .u32 i211)] : List Value) ∧
    (∀ h212 : AH, h212 = h204.alloc (.cells ([(.int .i64 0), (.int .u64 0), (.int .u32 0)] : List Value) 25 false) →
    (List.length ([(.int .i64 i209), (.int .u64 i210), (.int .u32 i211)] : List Value) = 3) ∧ ∃ h213 : AH, stN h212 h204.next 0 ([(.int .i64 i209), (.int .u64 i210), (.int .u32 i211)] : List Value) = some h213 ∧
    (∃ i214 : Int, ld1 h213 h204.next 1 = some (.int .u64 i214) ∧
    (((i29 : Int) < i214 → Q (.bool false) h213) ∧
    (¬ (i29 : Int) < i214 → ∀ i215 : Int, i215 = IntKind.wrap .i64 (i206 + 1) → ∃ j205, j205 < k203 ∧ I202 i215 j205 h213))))))) ∧
    (¬ (i206 : Int) < ((n200 : Nat) : Int) → ∃ I216 : Int → Nat → AH → Prop, (∃ n, I216 0 n h204) ∧
    ∀ (k217 : Nat) (h218 : AH) (i220 : Int), I216 i220 k217 h218 →
    ((i220 : Int) < ((na0 : Nat) : Int) → derefP pa0 fun b221 o222 => (((0 : Int) ≤ i220) ∧ ((i220 : Int) < ((na0 : Nat) : Int)) ∧
    (∃ i223 : Int, ∃ s224 : ByteArray, ∃ b225 : Bool, ∃ i226 : Int, ∃ i227 : Int, ∃ i228 : Int, ∃ i229 : Int, ∃ i230 : Int, ∃ i231 : Int, ∃ i232 : Int, ∃ (p233 : Option Addr) (n234 c235 : Nat), ldN h218 b221 (o222 + Int.toNat i220 * 11) 11 = some ([(.int .u64 i223), (.string s224), (.bool b225), (.int .u64 i226), (.int .u64 i227), (.int .u64 i228), (.int .i64 i229), (.int .i64 i230), (.int .u64 i231), (.int .u32 i232), (.slice p233 n234 c235)] : List Value) ∧
    (∀ h236 : AH, h236 = h218.alloc (.cells ([(.int .u64 0), (.string (ByteArray.mk #[])), (.bool false), (.int .u64 0), (.int .u64 0), (.int .u64 0), (.int .i64 0), (.int .i64 0), (.int .u64 0), (.int .u32 0), (.slice none 0 0)] : List Value) 28 false) →
    (List.length ([(.int .u64 i223), (.string s224), (.bool b225), (.int .u64 i226), (.int .u64 i227), (.int .u64 i228), (.int .i64 i229), (.int .i64 i230), (.int .u64 i231), (.int .u32 i232), (.slice p233 n234 c235)] : List Value) = 11) ∧ ∃ h237 : AH, stN h236 h218.next 0 ([(.int .u64 i223), (.string s224), (.bool b225), (.int .u64 i226), (.int .u64 i227), (.int .u64 i228), (.int .i64 i229), (.int .i64 i230), (.int .u64 i231), (.int .u32 i232), (.slice p233 n234 c235)] : List Value) = some h237 ∧
    (∃ i238 : Int, ld1 h237 h218.next 4 = some (.int .u64 i238) ∧
    (∃ i239 : Int, ld1 h237 h6.next 4 = some (.int .u64 i239) ∧
    (((i238 : Int) = i239 → ∃ i240 : Int, ld1 h237 h218.next 0 = some (.int .u64 i240) ∧
    (Wf Try.prog K 19 [(.slice pa0 na0 ca0), (.int .u64 i240)] h237 fun r241 h242 =>
    (∃ i243 : Int, r241 = (.int .u64 i243) ∧
    (((i243 : Int) = i29 → ∀ i244 : Int, i244 = IntKind.wrap .i64 (i220 + 1) → ∃ j219, j219 < k217 ∧ I216 i244 j219 h242) ∧
    (¬ (i243 : Int) = i29 → Q (.bool false) h242))))) ∧
    (¬ (i238 : Int) = i239 → ∀ i245 : Int, i245 = IntKind.wrap .i64 (i220 + 1) → ∃ j219, j219 < k217 ∧ I216 i245 j219 h237)))))))) ∧
    (¬ (i220 : Int) < ((na0 : Nat) : Int) → ∀ i246 : Int, i246 = IntKind.wrap .i64 (i8 + 1) → ∃ j7, j7 < k5 ∧ I4 i246 j7 h218))))))) ∧
    (¬ (i29 : Int) = 0 → Q (.bool false) h148)) ∧
    (¬ (i149 : Int) = 0 → Q (.bool false) h148)))))))))))))))) ∧
    (¬ (i8 : Int) < ((na0 : Nat) : Int) → Q (.bool true) h6))) ∨ (r2 = (.bool false) ∧
    (Q (.bool true) h3))))))) ∨ (r0 = (.bool false) ∧
    (Q (.bool false) h1))))) :
    Wf Try.prog K 6 [(.slice pa0 na0 ca0)] h Q :=
  vcF_sound (hs := [(6, [(24, .int .i64 0)]), (13, [(74, .int .i64 0)]), (19, [(85, .int .i64 0)])]) hk (Eq.mpr (by kernel_rfl) H)
theorem vc_aquiferlaw16_FamilyClones {K : Xs} (hk : K 5 = none) (pa0 : Option Addr) (na0 ca0 : Nat) (h : AH) (Q : Value → AH → Prop) (H :
    Wf Try.prog K 12 [] h fun r0 h1 =>
    (((r0 = (.bool true) ∧
    (((40 : Int) < ((na0 : Nat) : Int) → Q (.bool true) h1) ∧
    (¬ (40 : Int) < ((na0 : Nat) : Int) → Wf Try.prog K 13 [(.int .u64 281474976710655), (.slice pa0 na0 ca0)] h1 fun r2 h3 =>
    (((r2 = (.bool true) ∧
    (∃ I4 : Int → Nat → AH → Prop, (∃ n, I4 0 n h3) ∧
    ∀ (k5 : Nat) (h6 : AH) (i8 : Int), I4 i8 k5 h6 →
    ((i8 : Int) < ((na0 : Nat) : Int) → derefP pa0 fun b9 o10 => (((0 : Int) ≤ i8) ∧ ((i8 : Int) < ((na0 : Nat) : Int)) ∧
    (∃ i11 : Int, ∃ s12 : ByteArray, ∃ b13 : Bool, ∃ i14 : Int, ∃ i15 : Int, ∃ i16 : Int, ∃ i17 : Int, ∃ i18 : Int, ∃ i19 : Int, ∃ i20 : Int, ∃ (p21 : Option Addr) (n22 c23 : Nat), ldN h6 b9 (o10 + Int.toNat i8 * 11) 11 = some ([(.int .u64 i11), (.string s12), (.bool b13), (.int .u64 i14), (.int .u64 i15), (.int .u64 i16), (.int .i64 i17), (.int .i64 i18), (.int .u64 i19), (.int .u32 i20), (.slice p21 n22 c23)] : List Value) ∧
    (∀ h24 : AH, h24 = h6.alloc (.cells ([(.int .u64 0), (.string (ByteArray.mk #[])), (.bool false), (.int .u64 0), (.int .u64 0), (.int .u64 0), (.int .i64 0), (.int .i64 0), (.int .u64 0), (.int .u32 0), (.slice none 0 0)] : List Value) 28 false) →
    (List.length ([(.int .u64 i11), (.string s12), (.bool b13), (.int .u64 i14), (.int .u64 i15), (.int .u64 i16), (.int .i64 i17), (.int .i64 i18), (.int .u64 i19), (.int .u32 i20), (.slice p21 n22 c23)] : List Value) = 11) ∧ ∃ h25 : AH, stN h24 h6.next 0 ([(.int .u64 i11), (.string s12), (.bool b13), (.int .u64 i14), (.int .u64 i15), (.int .u64 i16), (.int .i64 i17), (.int .i64 i18), (.int .u64 i19), (.int .u32 i20), (.slice p21 n22 c23)] : List Value) = some h25 ∧
    (∃ I26 : Int → Int → Nat → AH → Prop, (∃ n, I26 0 0 n h25) ∧
    ∀ (k27 : Nat) (h28 : AH) (i30 : Int) (i31 : Int), I26 i30 i31 k27 h28 →
    ((i31 : Int) < ((na0 : Nat) : Int) → derefP pa0 fun b32 o33 => (((0 : Int) ≤ i31) ∧ ((i31 : Int) < ((na0 : Nat) : Int)) ∧
    (∃ i34 : Int, ∃ s35 : ByteArray, ∃ b36 : Bool, ∃ i37 : Int, ∃ i38 : Int, ∃ i39 : Int, ∃ i40 : Int, ∃ i41 : Int, ∃ i42 : Int, ∃ i43 : Int, ∃ (p44 : Option Addr) (n45 c46 : Nat), ldN h28 b32 (o33 + Int.toNat i31 * 11) 11 = some ([(.int .u64 i34), (.string s35), (.bool b36), (.int .u64 i37), (.int .u64 i38), (.int .u64 i39), (.int .i64 i40), (.int .i64 i41), (.int .u64 i42), (.int .u32 i43), (.slice p44 n45 c46)] : List Value) ∧
    (∀ h47 : AH, h47 = h28.alloc (.cells ([(.int .u64 0), (.string (ByteArray.mk #[])), (.bool false), (.int .u64 0), (.int .u64 0), (.int .u64 0), (.int .i64 0), (.int .i64 0), (.int .u64 0), (.int .u32 0), (.slice none 0 0)] : List Value) 28 false) →
    (List.length ([(.int .u64 i34), (.string s35), (.bool b36), (.int .u64 i37), (.int .u64 i38), (.int .u64 i39), (.int .i64 i40), (.int .i64 i41), (.int .u64 i42), (.int .u32 i43), (.slice p44 n45 c46)] : List Value) = 11) ∧ ∃ h48 : AH, stN h47 h28.next 0 ([(.int .u64 i34), (.string s35), (.bool b36), (.int .u64 i37), (.int .u64 i38), (.int .u64 i39), (.int .i64 i40), (.int .i64 i41), (.int .u64 i42), (.int .u32 i43), (.slice p44 n45 c46)] : List Value) = some h48 ∧
    (∃ i49 : Int, ld1 h48 h28.next 4 = some (.int .u64 i49) ∧
    (∃ i50 : Int, ld1 h48 h6.next 0 = some (.int .u64 i50) ∧
    (((i49 : Int) = i50 → ∀ i51 : Int, i51 = IntKind.wrap .i64 (i30 + 1) → ∀ i52 : Int, i52 = IntKind.wrap .i64 (i31 + 1) → ∃ j29, j29 < k27 ∧ I26 i51 i52 j29 h48) ∧
    (¬ (i49 : Int) = i50 → ∀ i53 : Int, i53 = IntKind.wrap .i64 (i31 + 1) → ∃ j29, j29 < k27 ∧ I26 i30 i53 j29 h48)))))))) ∧
    (¬ (i31 : Int) < ((na0 : Nat) : Int) → ∃ i54 : Int, ld1 h28 h6.next 0 = some (.int .u64 i54) ∧
    (Wf Try.prog K 16 [(.slice pa0 na0 ca0), (.int .u64 i54)] h28 fun r55 h56 =>
    (∃ (p57 : Option Addr) (n58 c59 : Nat), r55 = (.slice p57 n58 c59) ∧
    (((ld1 h56 h6.next 2 = some (.bool true) ∧
    (∀ i60 : Int, i60 = IntKind.wrap .i64 (((n58 : Nat) : Int) + 1) → ((i30 : Int) = i60 → ((ld1 h56 h6.next 2 = some (.bool true) ∧
    (∃ I61 : Int → Nat → AH → Prop, (∃ n, I61 0 n h56) ∧
    ∀ (k62 : Nat) (h63 : AH) (i65 : Int), I61 i65 k62 h63 →
    ((i65 : Int) < ((n58 : Nat) : Int) → derefP p57 fun b66 o67 => (((0 : Int) ≤ i65) ∧ ((i65 : Int) < ((n58 : Nat) : Int)) ∧
    (∃ i68 : Int, ld1 h63 b66 (o67 + Int.toNat i65 * 1) = some (.int .u64 i68) ∧
    (Wf Try.prog K 17 [(.slice pa0 na0 ca0), (.int .u64 i68)] h63 fun r69 h70 =>
    (∃ i71 : Int, ∃ s72 : ByteArray, ∃ b73 : Bool, ∃ i74 : Int, ∃ i75 : Int, ∃ i76 : Int, ∃ i77 : Int, ∃ i78 : Int, ∃ i79 : Int, ∃ i80 : Int, ∃ (p81 : Option Addr) (n82 c83 : Nat), ((r69 = (.tuple #[(.agg #[(.int .u64 i71), (.string s72), (.bool b73), (.int .u64 i74), (.int .u64 i75), (.int .u64 i76), (.int .i64 i77), (.int .i64 i78), (.int .u64 i79), (.int .u32 i80), (.slice p81 n82 c83)]), (.bool true)]) ∧
    (∀ h84 : AH, h84 = h70.alloc (.cells ([(.int .u64 0), (.string (ByteArray.mk #[])), (.bool false), (.int .u64 0), (.int .u64 0), (.int .u64 0), (.int .i64 0), (.int .i64 0), (.int .u64 0), (.int .u32 0), (.slice none 0 0)] : List Value) 28 false) →
    (List.length ([(.int .u64 i71), (.string s72), (.bool b73), (.int .u64 i74), (.int .u64 i75), (.int .u64 i76), (.int .i64 i77), (.int .i64 i78), (.int .u64 i79), (.int .u32 i80), (.slice p81 n82 c83)] : List Value) = 11) ∧ ∃ h85 : AH, stN h84 h70.next 0 ([(.int .u64 i71), (.string s72), (.bool b73), (.int .u64 i74), (.int .u64 i75), (.int .u64 i76), (.int .i64 i77), (.int .i64 i78), (.int .u64 i79), (.int .u32 i80), (.slice p81 n82 c83)] : List Value) = some h85 ∧
    (∃ i86 : Int, ld1 h85 h70.next 3 = some (.int .u64 i86) ∧
    (∃ i87 : Int, ld1 h85 h6.next 3 = some (.int .u64 i87) ∧
    (((i86 : Int) = i87 → Q (.bool false) h85) ∧
    (¬ (i86 : Int) = i87 → ∃ i88 : Int, ld1 h85 h70.next 3 = some (.int .u64 i88) ∧
    (Wf Try.prog K 18 [(.slice pa0 na0 ca0), (.int .u64 i88)] h85 fun r89 h90 =>
    (∃ i91 : Int, r89 = (.int .u64 i91) ∧
    (∃ i92 : Int, ld1 h90 h6.next 0 = some (.int .u64 i92) ∧
    (((i91 : Int) = i92 → (ld1 h85 h6.next 0 = some (.int .u64 i92)) ∧
    ((ld1 h90 h6.next 0 = some (.int .u64 i92)) ∧
    (∀ i93 : Int, i93 = IntKind.wrap .i64 (i65 + 1) → ∃ j64, j64 < k62 ∧ I61 i93 j64 h90))) ∧
    (¬ (i91 : Int) = i92 → (ld1 h85 h6.next 0 = some (.int .u64 i92)) ∧
    ((ld1 h90 h6.next 0 = some (.int .u64 i92)) ∧
    (Q (.bool false) h90))))))))))))) ∨ (r69 = (.tuple #[(.agg #[(.int .u64 i71), (.string s72), (.bool b73), (.int .u64 i74), (.int .u64 i75), (.int .u64 i76), (.int .i64 i77), (.int .i64 i78), (.int .u64 i79), (.int .u32 i80), (.slice p81 n82 c83)]), (.bool false)]) ∧
    (∀ h94 : AH, h94 = h70.alloc (.cells ([(.int .u64 0), (.string (ByteArray.mk #[])), (.bool false), (.int .u64 0), (.int .u64 0), (.int .u64 0), (.int .i64 0), (.int .i64 0), (.int .u64 0), (.int .u32 0), (.slice none 0 0)] : List Value) 28 false) →
    (List.length ([(.int .u64 i71), (.string s72), (.bool b73), (.int .u64 i74), (.int .u64 i75), (.int .u64 i76), (.int .i64 i77), (.int .i64 i78), (.int .u64 i79), (.int .u32 i80), (.slice p81 n82 c83)] : List Value) = 11) ∧ ∃ h95 : AH, stN h94 h70.next 0 ([(.int .u64 i71), (.string s72), (.bool b73), (.int .u64 i74), (.int .u64 i75), (.int .u64 i76), (.int .i64 i77), (.int .i64 i78), (.int .u64 i79), (.int .u32 i80), (.slice p81 n82 c83)] : List Value) = some h95 ∧
    (Q (.bool false) h95))))))))) ∧
    (¬ (i65 : Int) < ((n58 : Nat) : Int) → ∀ i96 : Int, i96 = IntKind.wrap .i64 (i8 + 1) → ∃ j7, j7 < k5 ∧ I4 i96 j7 h63))) ∨ (ld1 h56 h6.next 2 = some (.bool false) ∧
    (∀ i97 : Int, i97 = IntKind.wrap .i64 (i30 + ((n58 : Nat) : Int)) → ((0 : Int) < i97 → Q (.bool false) h56) ∧
    (¬ (0 : Int) < i97 → ∃ I98 : Int → Nat → AH → Prop, (∃ n, I98 0 n h56) ∧
    ∀ (k99 : Nat) (h100 : AH) (i102 : Int), I98 i102 k99 h100 →
    ((i102 : Int) < ((n58 : Nat) : Int) → derefP p57 fun b103 o104 => (((0 : Int) ≤ i102) ∧ ((i102 : Int) < ((n58 : Nat) : Int)) ∧
    (∃ i105 : Int, ld1 h100 b103 (o104 + Int.toNat i102 * 1) = some (.int .u64 i105) ∧
    (Wf Try.prog K 17 [(.slice pa0 na0 ca0), (.int .u64 i105)] h100 fun r106 h107 =>
    (∃ i108 : Int, ∃ s109 : ByteArray, ∃ b110 : Bool, ∃ i111 : Int, ∃ i112 : Int, ∃ i113 : Int, ∃ i114 : Int, ∃ i115 : Int, ∃ i116 : Int, ∃ i117 : Int, ∃ (p118 : Option Addr) (n119 c120 : Nat), ((r106 = (.tuple #[(.agg #[(.int .u64 i108), (.string s109), (.bool b110), (.int .u64 i111), (.int .u64 i112), (.int .u64 i113), (.int .i64 i114), (.int .i64 i115), (.int .u64 i116), (.int .u32 i117), (.slice p118 n119 c120)]), (.bool true)]) ∧
    (∀ h121 : AH, h121 = h107.alloc (.cells ([(.int .u64 0), (.string (ByteArray.mk #[])), (.bool false), (.int .u64 0), (.int .u64 0), (.int .u64 0), (.int .i64 0), (.int .i64 0), (.int .u64 0), (.int .u32 0), (.slice none 0 0)] : List Value) 28 false) →
    (List.length ([(.int .u64 i108), (.string s109), (.bool b110), (.int .u64 i111), (.int .u64 i112), (.int .u64 i113), (.int .i64 i114), (.int .i64 i115), (.int .u64 i116), (.int .u32 i117), (.slice p118 n119 c120)] : List Value) = 11) ∧ ∃ h122 : AH, stN h121 h107.next 0 ([(.int .u64 i108), (.string s109), (.bool b110), (.int .u64 i111), (.int .u64 i112), (.int .u64 i113), (.int .i64 i114), (.int .i64 i115), (.int .u64 i116), (.int .u32 i117), (.slice p118 n119 c120)] : List Value) = some h122 ∧
    (∃ i123 : Int, ld1 h122 h107.next 3 = some (.int .u64 i123) ∧
    (∃ i124 : Int, ld1 h122 h6.next 3 = some (.int .u64 i124) ∧
    (((i123 : Int) = i124 → Q (.bool false) h122) ∧
    (¬ (i123 : Int) = i124 → ∃ i125 : Int, ld1 h122 h107.next 3 = some (.int .u64 i125) ∧
    (Wf Try.prog K 18 [(.slice pa0 na0 ca0), (.int .u64 i125)] h122 fun r126 h127 =>
    (∃ i128 : Int, r126 = (.int .u64 i128) ∧
    (∃ i129 : Int, ld1 h127 h6.next 0 = some (.int .u64 i129) ∧
    (((i128 : Int) = i129 → (ld1 h122 h6.next 0 = some (.int .u64 i129)) ∧
    ((ld1 h127 h6.next 0 = some (.int .u64 i129)) ∧
    (∀ i130 : Int, i130 = IntKind.wrap .i64 (i102 + 1) → ∃ j101, j101 < k99 ∧ I98 i130 j101 h127))) ∧
    (¬ (i128 : Int) = i129 → (ld1 h122 h6.next 0 = some (.int .u64 i129)) ∧
    ((ld1 h127 h6.next 0 = some (.int .u64 i129)) ∧
    (Q (.bool false) h127))))))))))))) ∨ (r106 = (.tuple #[(.agg #[(.int .u64 i108), (.string s109), (.bool b110), (.int .u64 i111), (.int .u64 i112), (.int .u64 i113), (.int .i64 i114), (.int .i64 i115), (.int .u64 i116), (.int .u32 i117), (.slice p118 n119 c120)]), (.bool false)]) ∧
    (∀ h131 : AH, h131 = h107.alloc (.cells ([(.int .u64 0), (.string (ByteArray.mk #[])), (.bool false), (.int .u64 0), (.int .u64 0), (.int .u64 0), (.int .i64 0), (.int .i64 0), (.int .u64 0), (.int .u32 0), (.slice none 0 0)] : List Value) 28 false) →
    (List.length ([(.int .u64 i108), (.string s109), (.bool b110), (.int .u64 i111), (.int .u64 i112), (.int .u64 i113), (.int .i64 i114), (.int .i64 i115), (.int .u64 i116), (.int .u32 i117), (.slice p118 n119 c120)] : List Value) = 11) ∧ ∃ h132 : AH, stN h131 h107.next 0 ([(.int .u64 i108), (.string s109), (.bool b110), (.int .u64 i111), (.int .u64 i112), (.int .u64 i113), (.int .i64 i114), (.int .i64 i115), (.int .u64 i116), (.int .u32 i117), (.slice p118 n119 c120)] : List Value) = some h132 ∧
    (Q (.bool false) h132))))))))) ∧
    (¬ (i102 : Int) < ((n58 : Nat) : Int) → ∀ i133 : Int, i133 = IntKind.wrap .i64 (i8 + 1) → ∃ j7, j7 < k5 ∧ I4 i133 j7 h100)))))) ∧
    (¬ (i30 : Int) = i60 → Q (.bool false) h56))) ∨ (ld1 h56 h6.next 2 = some (.bool false) ∧
    (((ld1 h56 h6.next 2 = some (.bool true) ∧
    (∃ I134 : Int → Nat → AH → Prop, (∃ n, I134 0 n h56) ∧
    ∀ (k135 : Nat) (h136 : AH) (i138 : Int), I134 i138 k135 h136 →
    ((i138 : Int) < ((n58 : Nat) : Int) → derefP p57 fun b139 o140 => (((0 : Int) ≤ i138) ∧ ((i138 : Int) < ((n58 : Nat) : Int)) ∧
    (∃ i141 : Int, ld1 h136 b139 (o140 + Int.toNat i138 * 1) = some (.int .u64 i141) ∧
    (Wf Try.prog K 17 [(.slice pa0 na0 ca0), (.int .u64 i141)] h136 fun r142 h143 =>
    (∃ i144 : Int, ∃ s145 : ByteArray, ∃ b146 : Bool, ∃ i147 : Int, ∃ i148 : Int, ∃ i149 : Int, ∃ i150 : Int, ∃ i151 : Int, ∃ i152 : Int, ∃ i153 : Int, ∃ (p154 : Option Addr) (n155 c156 : Nat), ((r142 = (.tuple #[(.agg #[(.int .u64 i144), (.string s145), (.bool b146), (.int .u64 i147), (.int .u64 i148), (.int .u64 i149), (.int .i64 i150), (.int .i64 i151), (.int .u64 i152), (.int .u32 i153), (.slice p154 n155 c156)]), (.bool true)]) ∧
    (∀ h157 : AH, h157 = h143.alloc (.cells ([(.int .u64 0), (.string (ByteArray.mk #[])), (.bool false), (.int .u64 0), (.int .u64 0), (.int .u64 0), (.int .i64 0), (.int .i64 0), (.int .u64 0), (.int .u32 0), (.slice none 0 0)] : List Value) 28 false) →
    (List.length ([(.int .u64 i144), (.string s145), (.bool b146), (.int .u64 i147), (.int .u64 i148), (.int .u64 i149), (.int .i64 i150), (.int .i64 i151), (.int .u64 i152), (.int .u32 i153), (.slice p154 n155 c156)] : List Value) = 11) ∧ ∃ h158 : AH, stN h157 h143.next 0 ([(.int .u64 i144), (.string s145), (.bool b146), (.int .u64 i147), (.int .u64 i148), (.int .u64 i149), (.int .i64 i150), (.int .i64 i151), (.int .u64 i152), (.int .u32 i153), (.slice p154 n155 c156)] : List Value) = some h158 ∧
    (∃ i159 : Int, ld1 h158 h143.next 3 = some (.int .u64 i159) ∧
    (∃ i160 : Int, ld1 h158 h6.next 3 = some (.int .u64 i160) ∧
    (((i159 : Int) = i160 → Q (.bool false) h158) ∧
    (¬ (i159 : Int) = i160 → ∃ i161 : Int, ld1 h158 h143.next 3 = some (.int .u64 i161) ∧
    (Wf Try.prog K 18 [(.slice pa0 na0 ca0), (.int .u64 i161)] h158 fun r162 h163 =>
    (∃ i164 : Int, r162 = (.int .u64 i164) ∧
    (∃ i165 : Int, ld1 h163 h6.next 0 = some (.int .u64 i165) ∧
    (((i164 : Int) = i165 → (ld1 h158 h6.next 0 = some (.int .u64 i165)) ∧
    ((ld1 h163 h6.next 0 = some (.int .u64 i165)) ∧
    (∀ i166 : Int, i166 = IntKind.wrap .i64 (i138 + 1) → ∃ j137, j137 < k135 ∧ I134 i166 j137 h163))) ∧
    (¬ (i164 : Int) = i165 → (ld1 h158 h6.next 0 = some (.int .u64 i165)) ∧
    ((ld1 h163 h6.next 0 = some (.int .u64 i165)) ∧
    (Q (.bool false) h163))))))))))))) ∨ (r142 = (.tuple #[(.agg #[(.int .u64 i144), (.string s145), (.bool b146), (.int .u64 i147), (.int .u64 i148), (.int .u64 i149), (.int .i64 i150), (.int .i64 i151), (.int .u64 i152), (.int .u32 i153), (.slice p154 n155 c156)]), (.bool false)]) ∧
    (∀ h167 : AH, h167 = h143.alloc (.cells ([(.int .u64 0), (.string (ByteArray.mk #[])), (.bool false), (.int .u64 0), (.int .u64 0), (.int .u64 0), (.int .i64 0), (.int .i64 0), (.int .u64 0), (.int .u32 0), (.slice none 0 0)] : List Value) 28 false) →
    (List.length ([(.int .u64 i144), (.string s145), (.bool b146), (.int .u64 i147), (.int .u64 i148), (.int .u64 i149), (.int .i64 i150), (.int .i64 i151), (.int .u64 i152), (.int .u32 i153), (.slice p154 n155 c156)] : List Value) = 11) ∧ ∃ h168 : AH, stN h167 h143.next 0 ([(.int .u64 i144), (.string s145), (.bool b146), (.int .u64 i147), (.int .u64 i148), (.int .u64 i149), (.int .i64 i150), (.int .i64 i151), (.int .u64 i152), (.int .u32 i153), (.slice p154 n155 c156)] : List Value) = some h168 ∧
    (Q (.bool false) h168))))))))) ∧
    (¬ (i138 : Int) < ((n58 : Nat) : Int) → ∀ i169 : Int, i169 = IntKind.wrap .i64 (i8 + 1) → ∃ j7, j7 < k5 ∧ I4 i169 j7 h136))) ∨ (ld1 h56 h6.next 2 = some (.bool false) ∧
    (∀ i170 : Int, i170 = IntKind.wrap .i64 (i30 + ((n58 : Nat) : Int)) → ((0 : Int) < i170 → Q (.bool false) h56) ∧
    (¬ (0 : Int) < i170 → ∃ I171 : Int → Nat → AH → Prop, (∃ n, I171 0 n h56) ∧
    ∀ (k172 : Nat) (h173 : AH) (i175 : Int), I171 i175 k172 h173 →
    ((i175 : Int) < ((n58 : Nat) : Int) → derefP p57 fun b176 o177 => (((0 : Int) ≤ i175) ∧ ((i175 : Int) < ((n58 : Nat) : Int)) ∧
    (∃ i178 : Int, ld1 h173 b176 (o177 + Int.toNat i175 * 1) = some (.int .u64 i178) ∧
    (Wf Try.prog K 17 [(.slice pa0 na0 ca0), (.int .u64 i178)] h173 fun r179 h180 =>
    (∃ i181 : Int, ∃ s182 : ByteArray, ∃ b183 : Bool, ∃ i184 : Int, ∃ i185 : Int, ∃ i186 : Int, ∃ i187 : Int, ∃ i188 : Int, ∃ i189 : Int, ∃ i190 : Int, ∃ (p191 : Option Addr) (n192 c193 : Nat), ((r179 = (.tuple #[(.agg #[(.int .u64 i181), (.string s182), (.bool b183), (.int .u64 i184), (.int .u64 i185), (.int .u64 i186), (.int .i64 i187), (.int .i64 i188), (.int .u64 i189), (.int .u32 i190), (.slice p191 n192 c193)]), (.bool true)]) ∧
    (∀ h194 : AH, h194 = h180.alloc (.cells ([(.int .u64 0), (.string (ByteArray.mk #[])), (.bool false), (.int .u64 0), (.int .u64 0), (.int .u64 0), (.int .i64 0), (.int .i64 0), (.int .u64 0), (.int .u32 0), (.slice none 0 0)] : List Value) 28 false) →
    (List.length ([(.int .u64 i181), (.string s182), (.bool b183), (.int .u64 i184), (.int .u64 i185), (.int .u64 i186), (.int .i64 i187), (.int .i64 i188), (.int .u64 i189), (.int .u32 i190), (.slice p191 n192 c193)] : List Value) = 11) ∧ ∃ h195 : AH, stN h194 h180.next 0 ([(.int .u64 i181), (.string s182), (.bool b183), (.int .u64 i184), (.int .u64 i185), (.int .u64 i186), (.int .i64 i187), (.int .i64 i188), (.int .u64 i189), (.int .u32 i190), (.slice p191 n192 c193)] : List Value) = some h195 ∧
    (∃ i196 : Int, ld1 h195 h180.next 3 = some (.int .u64 i196) ∧
    (∃ i197 : Int, ld1 h195 h6.next 3 = some (.int .u64 i197) ∧
    (((i196 : Int) = i197 → Q (.bool false) h195) ∧
    (¬ (i196 : Int) = i197 → ∃ i198 : Int, ld1 h195 h180.next 3 = some (.int .u64 i198) ∧
    (Wf Try.prog K 18 [(.slice pa0 na0 ca0), (.int .u64 i198)] h195 fun r199 h200 =>
    (∃ i201 : Int, r199 = (.int .u64 i201) ∧
    (∃ i202 : Int, ld1 h200 h6.next 0 = some (.int .u64 i202) ∧
    (((i201 : Int) = i202 → (ld1 h195 h6.next 0 = some (.int .u64 i202)) ∧
    ((ld1 h200 h6.next 0 = some (.int .u64 i202)) ∧
    (∀ i203 : Int, i203 = IntKind.wrap .i64 (i175 + 1) → ∃ j174, j174 < k172 ∧ I171 i203 j174 h200))) ∧
    (¬ (i201 : Int) = i202 → (ld1 h195 h6.next 0 = some (.int .u64 i202)) ∧
    ((ld1 h200 h6.next 0 = some (.int .u64 i202)) ∧
    (Q (.bool false) h200))))))))))))) ∨ (r179 = (.tuple #[(.agg #[(.int .u64 i181), (.string s182), (.bool b183), (.int .u64 i184), (.int .u64 i185), (.int .u64 i186), (.int .i64 i187), (.int .i64 i188), (.int .u64 i189), (.int .u32 i190), (.slice p191 n192 c193)]), (.bool false)]) ∧
    (∀ h204 : AH, h204 = h180.alloc (.cells ([(.int .u64 0), (.string (ByteArray.mk #[])), (.bool false), (.int .u64 0), (.int .u64 0), (.int .u64 0), (.int .i64 0), (.int .i64 0), (.int .u64 0), (.int .u32 0), (.slice none 0 0)] : List Value) 28 false) →
    (List.length ([(.int .u64 i181), (.string s182), (.bool b183), (.int .u64 i184), (.int .u64 i185), (.int .u64 i186), (.int .i64 i187), (.int .i64 i188), (.int .u64 i189), (.int .u32 i190), (.slice p191 n192 c193)] : List Value) = 11) ∧ ∃ h205 : AH, stN h204 h180.next 0 ([(.int .u64 i181), (.string s182), (.bool b183), (.int .u64 i184), (.int .u64 i185), (.int .u64 i186), (.int .i64 i187), (.int .i64 i188), (.int .u64 i189), (.int .u32 i190), (.slice p191 n192 c193)] : List Value) = some h205 ∧
    (Q (.bool false) h205))))))))) ∧
    (¬ (i175 : Int) < ((n58 : Nat) : Int) → ∀ i206 : Int, i206 = IntKind.wrap .i64 (i8 + 1) → ∃ j7, j7 < k5 ∧ I4 i206 j7 h173))))))))))))))))) ∧
    (¬ (i8 : Int) < ((na0 : Nat) : Int) → Q (.bool true) h6))) ∨ (r2 = (.bool false) ∧
    (Q (.bool true) h3))))))) ∨ (r0 = (.bool false) ∧
    (Q (.bool false) h1))))) :
    Wf Try.prog K 5 [(.slice pa0 na0 ca0)] h Q :=
  vcF_sound (hs := [(6, [(25, .int .i64 0)]), (10, [(5, .int .i64 0), (31, .int .i64 0)]), (19, [(70, .int .i64 0)])]) hk (Eq.mpr (by kernel_rfl) H)
theorem vc_aquiferlaw16_FamilyNamed {K : Xs} (hk : K 7 = none) (pa0 : Option Addr) (na0 ca0 : Nat) (h : AH) (Q : Value → AH → Prop) (H :
    Wf Try.prog K 12 [] h fun r0 h1 =>
    (((r0 = (.bool true) ∧
    (((40 : Int) < ((na0 : Nat) : Int) → Q (.bool true) h1) ∧
    (¬ (40 : Int) < ((na0 : Nat) : Int) → Wf Try.prog K 13 [(.int .u64 281474976710655), (.slice pa0 na0 ca0)] h1 fun r2 h3 =>
    (((r2 = (.bool true) ∧
    (∃ I4 : Int → Nat → AH → Prop, (∃ n, I4 0 n h3) ∧
    ∀ (k5 : Nat) (h6 : AH) (i8 : Int), I4 i8 k5 h6 →
    ((i8 : Int) < ((na0 : Nat) : Int) → derefP pa0 fun b9 o10 => (((0 : Int) ≤ i8) ∧ ((i8 : Int) < ((na0 : Nat) : Int)) ∧
    (∃ i11 : Int, ∃ s12 : ByteArray, ∃ b13 : Bool, ∃ i14 : Int, ∃ i15 : Int, ∃ i16 : Int, ∃ i17 : Int, ∃ i18 : Int, ∃ i19 : Int, ∃ i20 : Int, ∃ (p21 : Option Addr) (n22 c23 : Nat), ldN h6 b9 (o10 + Int.toNat i8 * 11) 11 = some ([(.int .u64 i11), (.string s12), (.bool b13), (.int .u64 i14), (.int .u64 i15), (.int .u64 i16), (.int .i64 i17), (.int .i64 i18), (.int .u64 i19), (.int .u32 i20), (.slice p21 n22 c23)] : List Value) ∧
    (∀ h24 : AH, h24 = h6.alloc (.cells ([(.int .u64 0), (.string (ByteArray.mk #[])), (.bool false), (.int .u64 0), (.int .u64 0), (.int .u64 0), (.int .i64 0), (.int .i64 0), (.int .u64 0), (.int .u32 0), (.slice none 0 0)] : List Value) 28 false) →
    (List.length ([(.int .u64 i11), (.string s12), (.bool b13), (.int .u64 i14), (.int .u64 i15), (.int .u64 i16), (.int .i64 i17), (.int .i64 i18), (.int .u64 i19), (.int .u32 i20), (.slice p21 n22 c23)] : List Value) = 11) ∧ ∃ h25 : AH, stN h24 h6.next 0 ([(.int .u64 i11), (.string s12), (.bool b13), (.int .u64 i14), (.int .u64 i15), (.int .u64 i16), (.int .i64 i17), (.int .i64 i18), (.int .u64 i19), (.int .u32 i20), (.slice p21 n22 c23)] : List Value) = some h25 ∧
    (∃ i26 : Int, ld1 h25 h6.next 0 = some (.int .u64 i26) ∧
    (Wf Try.prog K 20 [(.slice pa0 na0 ca0), (.int .u64 i26)] h25 fun r27 h28 =>
    (∃ s29 : ByteArray, r27 = (.string s29) ∧
    (Wf Try.prog K 11 [(.slice pa0 na0 ca0), (.string s29)] h28 fun r30 h31 =>
    (∃ i32 : Int, ∃ s33 : ByteArray, ∃ b34 : Bool, ∃ i35 : Int, ∃ i36 : Int, ∃ i37 : Int, ∃ i38 : Int, ∃ i39 : Int, ∃ i40 : Int, ∃ i41 : Int, ∃ (p42 : Option Addr) (n43 c44 : Nat), ∃ i45 : Int, r30 = (.tuple #[(.agg #[(.int .u64 i32), (.string s33), (.bool b34), (.int .u64 i35), (.int .u64 i36), (.int .u64 i37), (.int .i64 i38), (.int .i64 i39), (.int .u64 i40), (.int .u32 i41), (.slice p42 n43 c44)]), (.int .i64 i45)]) ∧
    (∀ h46 : AH, h46 = h31.alloc (.cells ([(.int .u64 0), (.string (ByteArray.mk #[])), (.bool false), (.int .u64 0), (.int .u64 0), (.int .u64 0), (.int .i64 0), (.int .i64 0), (.int .u64 0), (.int .u32 0), (.slice none 0 0)] : List Value) 28 false) →
    (List.length ([(.int .u64 i32), (.string s33), (.bool b34), (.int .u64 i35), (.int .u64 i36), (.int .u64 i37), (.int .i64 i38), (.int .i64 i39), (.int .u64 i40), (.int .u32 i41), (.slice p42 n43 c44)] : List Value) = 11) ∧ ∃ h47 : AH, stN h46 h31.next 0 ([(.int .u64 i32), (.string s33), (.bool b34), (.int .u64 i35), (.int .u64 i36), (.int .u64 i37), (.int .i64 i38), (.int .i64 i39), (.int .u64 i40), (.int .u32 i41), (.slice p42 n43 c44)] : List Value) = some h47 ∧
    (((i45 : Int) = 0 → ∃ i48 : Int, ld1 h47 h31.next 0 = some (.int .u64 i48) ∧
    (∃ i49 : Int, ld1 h47 h6.next 0 = some (.int .u64 i49) ∧
    (((i48 : Int) = i49 → ((ld1 h47 h6.next 2 = some (.bool true) ∧
    (∃ i50 : Int, ld1 h47 h6.next 0 = some (.int .u64 i50) ∧
    (Wf Try.prog K 21 [(.slice pa0 na0 ca0), (.int .u64 i50)] h47 fun r51 h52 =>
    (∃ i53 : Int, r51 = (.int .u64 i53) ∧
    (Wf Try.prog K 17 [(.slice pa0 na0 ca0), (.int .u64 i53)] h52 fun r54 h55 =>
    (∃ i56 : Int, ∃ s57 : ByteArray, ∃ b58 : Bool, ∃ i59 : Int, ∃ i60 : Int, ∃ i61 : Int, ∃ i62 : Int, ∃ i63 : Int, ∃ i64 : Int, ∃ i65 : Int, ∃ (p66 : Option Addr) (n67 c68 : Nat), ((r54 = (.tuple #[(.agg #[(.int .u64 i56), (.string s57), (.bool b58), (.int .u64 i59), (.int .u64 i60), (.int .u64 i61), (.int .i64 i62), (.int .i64 i63), (.int .u64 i64), (.int .u32 i65), (.slice p66 n67 c68)]), (.bool true)]) ∧
    (∀ h69 : AH, h69 = h55.alloc (.cells ([(.int .u64 0), (.string (ByteArray.mk #[])), (.bool false), (.int .u64 0), (.int .u64 0), (.int .u64 0), (.int .i64 0), (.int .i64 0), (.int .u64 0), (.int .u32 0), (.slice none 0 0)] : List Value) 28 false) →
    (List.length ([(.int .u64 i56), (.string s57), (.bool b58), (.int .u64 i59), (.int .u64 i60), (.int .u64 i61), (.int .i64 i62), (.int .i64 i63), (.int .u64 i64), (.int .u32 i65), (.slice p66 n67 c68)] : List Value) = 11) ∧ ∃ h70 : AH, stN h69 h55.next 0 ([(.int .u64 i56), (.string s57), (.bool b58), (.int .u64 i59), (.int .u64 i60), (.int .u64 i61), (.int .i64 i62), (.int .i64 i63), (.int .u64 i64), (.int .u32 i65), (.slice p66 n67 c68)] : List Value) = some h70 ∧
    (∃ i71 : Int, ld1 h70 h55.next 3 = some (.int .u64 i71) ∧
    (∃ i72 : Int, ld1 h70 h6.next 3 = some (.int .u64 i72) ∧
    (((i71 : Int) = i72 → ∃ i73 : Int, ld1 h70 h55.next 4 = some (.int .u64 i73) ∧
    (∃ i74 : Int, ld1 h70 h6.next 0 = some (.int .u64 i74) ∧
    (((i73 : Int) = i74 → ((ld1 h70 h55.next 2 = some (.bool true) ∧
    (∃ i75 : Int, ld1 h70 h55.next 5 = some (.int .u64 i75) ∧
    (∃ i76 : Int, ld1 h70 h6.next 5 = some (.int .u64 i76) ∧
    (((i75 : Int) ≤ i76 → Q (.bool false) h70) ∧
    (¬ (i75 : Int) ≤ i76 → ∀ i77 : Int, i77 = IntKind.wrap .i64 (i8 + 1) → ∃ j7, j7 < k5 ∧ I4 i77 j7 h70))))) ∨ (ld1 h70 h55.next 2 = some (.bool false) ∧
    (∀ i78 : Int, i78 = IntKind.wrap .i64 (i8 + 1) → ∃ j7, j7 < k5 ∧ I4 i78 j7 h70)))) ∧
    (¬ (i73 : Int) = i74 → Q (.bool false) h70)))) ∧
    (¬ (i71 : Int) = i72 → Q (.bool false) h70)))))) ∨ (r54 = (.tuple #[(.agg #[(.int .u64 i56), (.string s57), (.bool b58), (.int .u64 i59), (.int .u64 i60), (.int .u64 i61), (.int .i64 i62), (.int .i64 i63), (.int .u64 i64), (.int .u32 i65), (.slice p66 n67 c68)]), (.bool false)]) ∧
    (∀ h79 : AH, h79 = h55.alloc (.cells ([(.int .u64 0), (.string (ByteArray.mk #[])), (.bool false), (.int .u64 0), (.int .u64 0), (.int .u64 0), (.int .i64 0), (.int .i64 0), (.int .u64 0), (.int .u32 0), (.slice none 0 0)] : List Value) 28 false) →
    (List.length ([(.int .u64 i56), (.string s57), (.bool b58), (.int .u64 i59), (.int .u64 i60), (.int .u64 i61), (.int .i64 i62), (.int .i64 i63), (.int .u64 i64), (.int .u32 i65), (.slice p66 n67 c68)] : List Value) = 11) ∧ ∃ h80 : AH, stN h79 h55.next 0 ([(.int .u64 i56), (.string s57), (.bool b58), (.int .u64 i59), (.int .u64 i60), (.int .u64 i61), (.int .i64 i62), (.int .i64 i63), (.int .u64 i64), (.int .u32 i65), (.slice p66 n67 c68)] : List Value) = some h80 ∧
    (Q (.bool false) h80)))))))))) ∨ (ld1 h47 h6.next 2 = some (.bool false) ∧
    (∃ I81 : Int → Int → Nat → AH → Prop, (∃ n, I81 0 0 n h47) ∧
    ∀ (k82 : Nat) (h83 : AH) (i85 : Int) (i86 : Int), I81 i85 i86 k82 h83 →
    ((i86 : Int) < ((na0 : Nat) : Int) → derefP pa0 fun b87 o88 => (((0 : Int) ≤ i86) ∧ ((i86 : Int) < ((na0 : Nat) : Int)) ∧
    (∃ i89 : Int, ∃ s90 : ByteArray, ∃ b91 : Bool, ∃ i92 : Int, ∃ i93 : Int, ∃ i94 : Int, ∃ i95 : Int, ∃ i96 : Int, ∃ i97 : Int, ∃ i98 : Int, ∃ (p99 : Option Addr) (n100 c101 : Nat), ldN h83 b87 (o88 + Int.toNat i86 * 11) 11 = some ([(.int .u64 i89), (.string s90), (.bool b91), (.int .u64 i92), (.int .u64 i93), (.int .u64 i94), (.int .i64 i95), (.int .i64 i96), (.int .u64 i97), (.int .u32 i98), (.slice p99 n100 c101)] : List Value) ∧
    (∀ h102 : AH, h102 = h83.alloc (.cells ([(.int .u64 0), (.string (ByteArray.mk #[])), (.bool false), (.int .u64 0), (.int .u64 0), (.int .u64 0), (.int .i64 0), (.int .i64 0), (.int .u64 0), (.int .u32 0), (.slice none 0 0)] : List Value) 28 false) →
    (List.length ([(.int .u64 i89), (.string s90), (.bool b91), (.int .u64 i92), (.int .u64 i93), (.int .u64 i94), (.int .i64 i95), (.int .i64 i96), (.int .u64 i97), (.int .u32 i98), (.slice p99 n100 c101)] : List Value) = 11) ∧ ∃ h103 : AH, stN h102 h83.next 0 ([(.int .u64 i89), (.string s90), (.bool b91), (.int .u64 i92), (.int .u64 i93), (.int .u64 i94), (.int .i64 i95), (.int .i64 i96), (.int .u64 i97), (.int .u32 i98), (.slice p99 n100 c101)] : List Value) = some h103 ∧
    (((ld1 h103 h83.next 2 = some (.bool true) ∧
    (∃ i104 : Int, ld1 h103 h83.next 3 = some (.int .u64 i104) ∧
    (∃ i105 : Int, ld1 h103 h6.next 0 = some (.int .u64 i105) ∧
    (((i104 : Int) = i105 → ∀ i106 : Int, i106 = IntKind.wrap .i64 (i85 + 1) → ∀ i107 : Int, i107 = IntKind.wrap .i64 (i86 + 1) → ∃ j84, j84 < k82 ∧ I81 i106 i107 j84 h103) ∧
    (¬ (i104 : Int) = i105 → ∀ i108 : Int, i108 = IntKind.wrap .i64 (i86 + 1) → ∃ j84, j84 < k82 ∧ I81 i85 i108 j84 h103))))) ∨ (ld1 h103 h83.next 2 = some (.bool false) ∧
    (∀ i109 : Int, i109 = IntKind.wrap .i64 (i86 + 1) → ∃ j84, j84 < k82 ∧ I81 i85 i109 j84 h103)))))))) ∧
    (¬ (i86 : Int) < ((na0 : Nat) : Int) → ∃ i110 : Int, ld1 h83 h6.next 0 = some (.int .u64 i110) ∧
    (Wf Try.prog K 22 [(.slice pa0 na0 ca0), (.int .u64 i110)] h83 fun r111 h112 =>
    (∃ (p113 : Option Addr) (n114 c115 : Nat), r111 = (.slice p113 n114 c115) ∧
    (∃ I116 : Int → Int → Nat → AH → Prop, (∃ n, I116 281474976710656 0 n h112) ∧
    ∀ (k117 : Nat) (h118 : AH) (i120 : Int) (i121 : Int), I116 i120 i121 k117 h118 →
    ((i121 : Int) < ((n114 : Nat) : Int) → derefP p113 fun b122 o123 => (((0 : Int) ≤ i121) ∧ ((i121 : Int) < ((n114 : Nat) : Int)) ∧
    (∃ i124 : Int, ld1 h118 b122 (o123 + Int.toNat i121 * 1) = some (.int .u64 i124) ∧
    (Wf Try.prog K 17 [(.slice pa0 na0 ca0), (.int .u64 i124)] h118 fun r125 h126 =>
    (∃ i127 : Int, ∃ s128 : ByteArray, ∃ b129 : Bool, ∃ i130 : Int, ∃ i131 : Int, ∃ i132 : Int, ∃ i133 : Int, ∃ i134 : Int, ∃ i135 : Int, ∃ i136 : Int, ∃ (p137 : Option Addr) (n138 c139 : Nat), ((r125 = (.tuple #[(.agg #[(.int .u64 i127), (.string s128), (.bool b129), (.int .u64 i130), (.int .u64 i131), (.int .u64 i132), (.int .i64 i133), (.int .i64 i134), (.int .u64 i135), (.int .u32 i136), (.slice p137 n138 c139)]), (.bool true)]) ∧
    (∀ h140 : AH, h140 = h126.alloc (.cells ([(.int .u64 0), (.string (ByteArray.mk #[])), (.bool false), (.int .u64 0), (.int .u64 0), (.int .u64 0), (.int .i64 0), (.int .i64 0), (.int .u64 0), (.int .u32 0), (.slice none 0 0)] : List Value) 28 false) →
    (List.length ([(.int .u64 i127), (.string s128), (.bool b129), (.int .u64 i130), (.int .u64 i131), (.int .u64 i132), (.int .i64 i133), (.int .i64 i134), (.int .u64 i135), (.int .u32 i136), (.slice p137 n138 c139)] : List Value) = 11) ∧ ∃ h141 : AH, stN h140 h126.next 0 ([(.int .u64 i127), (.string s128), (.bool b129), (.int .u64 i130), (.int .u64 i131), (.int .u64 i132), (.int .i64 i133), (.int .i64 i134), (.int .u64 i135), (.int .u32 i136), (.slice p137 n138 c139)] : List Value) = some h141 ∧
    (∃ i142 : Int, ld1 h141 h126.next 3 = some (.int .u64 i142) ∧
    (∃ i143 : Int, ld1 h141 h6.next 0 = some (.int .u64 i143) ∧
    (((i142 : Int) = i143 → ∃ i144 : Int, ld1 h141 h126.next 5 = some (.int .u64 i144) ∧
    (((i120 : Int) ≤ i144 → Q (.bool false) h141) ∧
    (¬ (i120 : Int) ≤ i144 → ∃ i145 : Int, ld1 h141 h126.next 5 = some (.int .u64 i145) ∧
    (∀ i146 : Int, i146 = IntKind.wrap .i64 (i121 + 1) → ∃ j119, j119 < k117 ∧ I116 i145 i146 j119 h141)))) ∧
    (¬ (i142 : Int) = i143 → Q (.bool false) h141)))))) ∨ (r125 = (.tuple #[(.agg #[(.int .u64 i127), (.string s128), (.bool b129), (.int .u64 i130), (.int .u64 i131), (.int .u64 i132), (.int .i64 i133), (.int .i64 i134), (.int .u64 i135), (.int .u32 i136), (.slice p137 n138 c139)]), (.bool false)]) ∧
    (∀ h147 : AH, h147 = h126.alloc (.cells ([(.int .u64 0), (.string (ByteArray.mk #[])), (.bool false), (.int .u64 0), (.int .u64 0), (.int .u64 0), (.int .i64 0), (.int .i64 0), (.int .u64 0), (.int .u32 0), (.slice none 0 0)] : List Value) 28 false) →
    (List.length ([(.int .u64 i127), (.string s128), (.bool b129), (.int .u64 i130), (.int .u64 i131), (.int .u64 i132), (.int .i64 i133), (.int .i64 i134), (.int .u64 i135), (.int .u32 i136), (.slice p137 n138 c139)] : List Value) = 11) ∧ ∃ h148 : AH, stN h147 h126.next 0 ([(.int .u64 i127), (.string s128), (.bool b129), (.int .u64 i130), (.int .u64 i131), (.int .u64 i132), (.int .i64 i133), (.int .i64 i134), (.int .u64 i135), (.int .u32 i136), (.slice p137 n138 c139)] : List Value) = some h148 ∧
    (Q (.bool false) h148))))))))) ∧
    (¬ (i121 : Int) < ((n114 : Nat) : Int) → ∃ i149 : Int, ld1 h118 h6.next 0 = some (.int .u64 i149) ∧
    (Wf Try.prog K 18 [(.slice pa0 na0 ca0), (.int .u64 i149)] h118 fun r150 h151 =>
    (∃ i152 : Int, r150 = (.int .u64 i152) ∧
    (Wf Try.prog K 17 [(.slice pa0 na0 ca0), (.int .u64 i152)] h151 fun r153 h154 =>
    (∃ i155 : Int, ∃ s156 : ByteArray, ∃ b157 : Bool, ∃ i158 : Int, ∃ i159 : Int, ∃ i160 : Int, ∃ i161 : Int, ∃ i162 : Int, ∃ i163 : Int, ∃ i164 : Int, ∃ (p165 : Option Addr) (n166 c167 : Nat), ((r153 = (.tuple #[(.agg #[(.int .u64 i155), (.string s156), (.bool b157), (.int .u64 i158), (.int .u64 i159), (.int .u64 i160), (.int .i64 i161), (.int .i64 i162), (.int .u64 i163), (.int .u32 i164), (.slice p165 n166 c167)]), (.bool true)]) ∧
    (∀ h168 : AH, h168 = h154.alloc (.cells ([(.int .u64 0), (.string (ByteArray.mk #[])), (.bool false), (.int .u64 0), (.int .u64 0), (.int .u64 0), (.int .i64 0), (.int .i64 0), (.int .u64 0), (.int .u32 0), (.slice none 0 0)] : List Value) 28 false) →
    (List.length ([(.int .u64 i155), (.string s156), (.bool b157), (.int .u64 i158), (.int .u64 i159), (.int .u64 i160), (.int .i64 i161), (.int .i64 i162), (.int .u64 i163), (.int .u32 i164), (.slice p165 n166 c167)] : List Value) = 11) ∧ ∃ h169 : AH, stN h168 h154.next 0 ([(.int .u64 i155), (.string s156), (.bool b157), (.int .u64 i158), (.int .u64 i159), (.int .u64 i160), (.int .i64 i161), (.int .i64 i162), (.int .u64 i163), (.int .u32 i164), (.slice p165 n166 c167)] : List Value) = some h169 ∧
    (((((n114 : Nat) : Int) : Int) = i85 → ∃ i170 : Int, ld1 h169 h154.next 3 = some (.int .u64 i170) ∧
    (∃ i171 : Int, ld1 h169 h6.next 0 = some (.int .u64 i171) ∧
    (((i170 : Int) = i171 → Q (.bool false) h169) ∧
    (¬ (i170 : Int) = i171 → ((ld1 h169 h154.next 2 = some (.bool true) ∧
    (∀ i172 : Int, i172 = IntKind.wrap .i64 (i8 + 1) → ∃ j7, j7 < k5 ∧ I4 i172 j7 h169)) ∨ (ld1 h169 h154.next 2 = some (.bool false) ∧
    (Q (.bool false) h169))))))) ∧
    (¬ (((n114 : Nat) : Int) : Int) = i85 → Q (.bool false) h169)))) ∨ (r153 = (.tuple #[(.agg #[(.int .u64 i155), (.string s156), (.bool b157), (.int .u64 i158), (.int .u64 i159), (.int .u64 i160), (.int .i64 i161), (.int .i64 i162), (.int .u64 i163), (.int .u32 i164), (.slice p165 n166 c167)]), (.bool false)]) ∧
    (∀ h173 : AH, h173 = h154.alloc (.cells ([(.int .u64 0), (.string (ByteArray.mk #[])), (.bool false), (.int .u64 0), (.int .u64 0), (.int .u64 0), (.int .i64 0), (.int .i64 0), (.int .u64 0), (.int .u32 0), (.slice none 0 0)] : List Value) 28 false) →
    (List.length ([(.int .u64 i155), (.string s156), (.bool b157), (.int .u64 i158), (.int .u64 i159), (.int .u64 i160), (.int .i64 i161), (.int .i64 i162), (.int .u64 i163), (.int .u32 i164), (.slice p165 n166 c167)] : List Value) = 11) ∧ ∃ h174 : AH, stN h173 h154.next 0 ([(.int .u64 i155), (.string s156), (.bool b157), (.int .u64 i158), (.int .u64 i159), (.int .u64 i160), (.int .i64 i161), (.int .i64 i162), (.int .u64 i163), (.int .u32 i164), (.slice p165 n166 c167)] : List Value) = some h174 ∧
    (((((n114 : Nat) : Int) : Int) = i85 → ∀ i175 : Int, i175 = IntKind.wrap .i64 (i8 + 1) → ∃ j7, j7 < k5 ∧ I4 i175 j7 h174) ∧
    (¬ (((n114 : Nat) : Int) : Int) = i85 → Q (.bool false) h174)))))))))))))))))) ∧
    (¬ (i48 : Int) = i49 → Q (.bool false) h47)))) ∧
    (¬ (i45 : Int) = 0 → Q (.bool false) h47)))))))))))) ∧
    (¬ (i8 : Int) < ((na0 : Nat) : Int) → Q (.bool true) h6))) ∨ (r2 = (.bool false) ∧
    (Q (.bool true) h3))))))) ∨ (r0 = (.bool false) ∧
    (Q (.bool false) h1))))) :
    Wf Try.prog K 7 [(.slice pa0 na0 ca0)] h Q :=
  vcF_sound (hs := [(6, [(32, .int .i64 0)]), (17, [(9, .int .i64 0), (94, .int .i64 0)]), (25, [(13, .int .u64 0), (116, .int .i64 0)])]) hk (Eq.mpr (by kernel_rfl) H)
end Go.Am
