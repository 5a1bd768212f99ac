/-
  WEAKEST CONDITIONS of some functions of this program, printed by a program.
-/
import Derived.Test.YtnapccecmcdnjacGreatAmG
import Derived.Test.YtnapccecmcdnjacGreatRows
set_option linter.unusedVariables false
set_option maxRecDepth 100000
namespace Go.Am
open Go.Proofs
theorem vc_span_Has {K : Xs} (hk : K 160 = none) (pa0 : Option Addr) (na0 ca0 : Nat) (ia1 : Int) (h : AH) (Q : Value → AH → Prop) (H :
    ∀ h0 : AH, h0 = h.alloc (.cells ([(.int .i64 ia1)] : List Value) 3 false) →
    ∀ h1 : AH, h1 = h0.alloc (.cells ([(.bool false)] : List Value) 4 false) →
    Wf Tryz.prog K 125 [(.slice pa0 na0 ca0)] h1 fun r2 h3 =>
    (∃ (g4 : FuncId) (cap5 : List Value), r2 = (.func (.func g4) #[] cap5.toArray) ∧
    (∃ (J6 : Nat → AH → Prop) (D7 : AX → AH → Prop) (N8 : Nat) (item9 : Nat → List Value) (G12 B13 : AH → AH → Prop),
    (K g4 = none ∧ ([8] : List Nat) = [8]) ∧
    (∀ i, i < N8 → ∃ i15 : Int, item9 i = [(.int .i64 i15)]) ∧
    (∀ h1 : AH, h1.next = h3.next + 1 → (∀ c, c ≠ h3.next → h1.get c = h3.get c) → J6 0 h1) ∧
    (∀ i h1 h2, J6 i h1 → Near h3.next h1 h2 → J6 i h2) ∧
    (∀ x h1 h2, D7 x h1 → Near h3.next h1 h2 → D7 x h2) ∧
    (∀ i h1 h2, J6 i h1 → G12 h1 h2 → J6 i h2) ∧ (∀ x h1 h2, D7 x h1 → G12 h1 h2 → D7 x h2) ∧ (∀ h1 h2, G12 h1 h2 → h2.get h3.next = h1.get h3.next) ∧
    (∀ (k10 : Nat) (h11 : AH), k10 < N8 → J6 k10 h11 → (∃ L, h11.get h3.next = some (.loop L)) → ∀ (i14 : Int), item9 k10 = [(.int .i64 i14)] →
    AX.normal = AX.normal ∧ (h11.get h3.next = h11.get h3.next) ∧ ∀ h16 : AH, Near h3.next h11 h16 → (∃ L, h16.get h3.next = some (.loop L)) →
    ∃ i17 : Int, ld1 h16 h.next 0 = some (.int .i64 i17) ∧
    (((i17 : Int) ≤ i14 → ∃ i18 : Int, ld1 h16 h.next 0 = some (.int .i64 i18) ∧
    (((i14 : Int) = i18 → ∃ h19 : AH, st1 h16 h0.next 0 (.bool true) = some h19 ∧
    ((h19.get h3.next = h16.get h3.next ∧ D7 .ret h19 ∧ ∀ h5, Near h3.next h19 h5 → B13 h11 h5))) ∧
    (¬ (i14 : Int) = i18 → ∃ h20 : AH, st1 h16 h0.next 0 (.bool false) = some h20 ∧
    ((h20.get h3.next = h16.get h3.next ∧ D7 .ret h20 ∧ ∀ h5, Near h3.next h20 h5 → B13 h11 h5))))) ∧
    (¬ (i17 : Int) ≤ i14 → (h16.get h3.next = h16.get h3.next ∧ J6 (k10 + 1) h16 ∧ ∀ h5, Near h3.next h16 h5 → B13 h11 h5)))) ∧
    (∀ (JJ21 : Nat → AH → Prop) (DD22 : AH → Prop), (∀ i h1, JJ21 i h1 → J6 i h1) → (∀ i h1 h2, JJ21 i h1 → G12 h1 h2 → JJ21 i h2) → (∀ h1 h2, DD22 h1 → G12 h1 h2 → DD22 h2) →
    (∀ (k24 : Nat) (h23 : AH), k24 < N8 → JJ21 k24 h23 → Wy Tryz.prog K h3.next (item9 k24) h23 fun r26 h27 => ((r26 = .bool true ∧ JJ21 (k24 + 1) h27) ∨ (r26 = .bool false ∧ DD22 h27)) ∧ B13 h23 h27) →
    ∀ h25 : AH, JJ21 0 h25 → Wf Tryz.prog K g4 ([(Value.func (Fn.yield h3.next) #[] #[])] ++ cap5) h25 fun _ h28 => JJ21 N8 h28 ∨ DD22 h28) ∧
    (∀ h29 : AH, J6 N8 h29 → ∃ h30 : AH, st1 (h29.del h3.next) h0.next 0 (.bool false) = some h30 ∧
    (((ld1 h30 h0.next 0 = some (.bool true) ∧
    (Q (.bool true) h30)) ∨ (ld1 h30 h0.next 0 = some (.bool false) ∧
    (Q (.bool false) h30))))) ∧
    (∀ h31 : AH, D7 .ret h31 → ((ld1 (h31.del h3.next) h0.next 0 = some (.bool true) ∧
    (Q (.bool true) (h31.del h3.next))) ∨ (ld1 (h31.del h3.next) h0.next 0 = some (.bool false) ∧
    (Q (.bool false) (h31.del h3.next))))) ∧
    (∀ (x32 : AX) (h31 : AH), x32 ≠ .normal → D7 x32 h31 → memAX x32 [.ret] = true)))) :
    Wf Tryz.prog K 160 [(.slice pa0 na0 ca0), (.int .i64 ia1)] h Q :=
  vcF_sound (hs := [(2, [(8, .int .i64 0)])]) hk (Eq.mpr (by kernel_rfl) H)
theorem vc_span_each {K : Xs} (hk : K 125 = none) (pa0 : Option Addr) (na0 ca0 : Nat) (h : AH) (Q : Value → AH → Prop) (H :
    ∀ h0 : AH, h0 = h.alloc (.cells ([(.slice pa0 na0 ca0)] : List Value) 22 false) →
    Q (.func (.func 142) #[] #[(.pointer (some ⟨h.next, 0, none⟩))]) h0) :
    Wf Tryz.prog K 125 [(.slice pa0 na0 ca0)] h Q :=
  vcF_sound (hs := []) hk (Eq.mpr (by kernel_rfl) H)
theorem vc_span_each_1 {K : Xs} (hk : K 142 = none) (ya0 : Nat) (pf0 : Option Addr) (h : AH) (Q : Value → AH → Prop) (H :
    derefP pf0 fun b0 o1 => (∃ (p2 : Option Addr) (n3 c4 : Nat), ld1 h b0 o1 = some (.slice p2 n3 c4) ∧
    (Wf Tryz.prog K 94 [(.slice p2 n3 c4)] h fun r5 h6 =>
    (((r5 = (.bool true) ∧
    (derefP pf0 fun b7 o8 => (∃ (p9 : Option Addr) (n10 c11 : Nat), ld1 h6 b7 o8 = some (.slice p9 n10 c11) ∧
    (∃ I12 : Int → Nat → AH → Prop, (∃ n, I12 0 n h6) ∧
    ∀ (k13 : Nat) (h14 : AH), ∀ (i16 : Int), I12 i16 k13 h14 →
    ((i16 : Int) < ((n10 : Nat) : Int) → derefP p9 fun b17 o18 => (((0 : Int) ≤ i16) ∧ ((i16 : Int) < ((n10 : Nat) : Int)) ∧
    (∃ i19 : Int, ∃ i20 : Int, ldN h14 b17 (o18 + Int.toNat i16 * 2) 2 = some ([(.int .i64 i19), (.int .i64 i20)] : List Value) ∧
    (∀ h21 : AH, h21 = h14.alloc (.cells ([(.int .i64 0), (.int .i64 0)] : List Value) 70 false) →
    (List.length ([(.int .i64 i19), (.int .i64 i20)] : List Value) = 2) ∧ ∃ h22 : AH, stN h21 h14.next 0 ([(.int .i64 i19), (.int .i64 i20)] : List Value) = some h22 ∧
    (∃ i23 : Int, ld1 h22 h14.next 1 = some (.int .i64 i23) ∧
    (∃ I24 : Int → Nat → AH → Prop, (∃ n, I24 0 n h22) ∧
    ∀ (k25 : Nat) (h26 : AH), ∀ (i28 : Int), I24 i28 k25 h26 →
    ((i28 : Int) < i23 → ∃ i29 : Int, ld1 h26 h14.next 0 = some (.int .i64 i29) ∧
    (∀ i30 : Int, i30 = IntKind.wrap .i64 (i29 + i28) → Wy Tryz.prog K ya0 [(.int .i64 i30)] h26 fun r31 h32 => ∃ b33 : Bool, r31 = .bool b33 ∧
    (cond (!b33) (Q (.tuple #[]) h32)
    (∀ i34 : Int, i34 = IntKind.wrap .i64 (i28 + 1) → ∃ j27, j27 < k25 ∧ I24 i34 j27 h32)))) ∧
    (¬ (i28 : Int) < i23 → ∀ i35 : Int, i35 = IntKind.wrap .i64 (i16 + 1) → ∃ j15, j15 < k13 ∧ I12 i35 j15 h26))))))) ∧
    (¬ (i16 : Int) < ((n10 : Nat) : Int) → Q (.tuple #[]) h14))))) ∨ (r5 = (.bool false) ∧
    (Q (.tuple #[]) h6))))))) :
    Wf Tryz.prog K 142 [(Value.func (Fn.yield ya0) #[] #[]), (.pointer pf0)] h Q :=
  vcF_sound (hs := [(2, [(11, .int .i64 0)]), (5, [(17, .int .i64 0)])]) hk (Eq.mpr (by kernel_rfl) H)
theorem vc_span_single {K : Xs} (hk : K 123 = none) (ia0_0 : Int) (ia0_1 : Int) (h : AH) (Q : Value → AH → Prop) (H :
    ∀ h0 : AH, h0 = h.alloc (.cells ([(.int .i64 ia0_0), (.int .i64 ia0_1)] : List Value) 70 false) →
    ∃ i1 : Int, ld1 h0 h.next 0 = some (.int .i64 i1) ∧
    (((0 : Int) ≤ i1 → ∃ i2 : Int, ld1 h0 h.next 0 = some (.int .i64 i2) ∧
    (((i2 : Int) < 4096 → ∃ i3 : Int, ld1 h0 h.next 1 = some (.int .i64 i3) ∧
    (((1 : Int) ≤ i3 → ∃ i4 : Int, ld1 h0 h.next 1 = some (.int .i64 i4) ∧
    (∃ i5 : Int, ld1 h0 h.next 0 = some (.int .i64 i5) ∧
    (∀ i6 : Int, i6 = IntKind.wrap .i64 (4096 - i5) → ((i4 : Int) ≤ i6 → Q (.bool true) h0) ∧
    (¬ (i4 : Int) ≤ i6 → Q (.bool false) h0)))) ∧
    (¬ (1 : Int) ≤ i3 → Q (.bool false) h0))) ∧
    (¬ (i2 : Int) < 4096 → Q (.bool false) h0))) ∧
    (¬ (0 : Int) ≤ i1 → Q (.bool false) h0))) :
    Wf Tryz.prog K 123 [(.agg #[(.int .i64 ia0_0), (.int .i64 ia0_1)])] h Q :=
  vcF_sound (hs := []) hk (Eq.mpr (by kernel_rfl) H)
theorem vc_span_Right {K : Xs} (hk : K 94 = none) (pa0 : Option Addr) (na0 ca0 : Nat) (h : AH) (Q : Value → AH → Prop) (H :
    ∃ I0 : Int → Int → Nat → AH → Prop, (∃ n, I0 (-1) 0 n h) ∧
    ∀ (k1 : Nat) (h2 : AH), ∀ (i4 : Int), ∀ (i5 : Int), I0 i4 i5 k1 h2 →
    ((i5 : Int) < ((na0 : Nat) : Int) → derefP pa0 fun b6 o7 => (((0 : Int) ≤ i5) ∧ ((i5 : Int) < ((na0 : Nat) : Int)) ∧
    (∃ i8 : Int, ∃ i9 : Int, ldN h2 b6 (o7 + Int.toNat i5 * 2) 2 = some ([(.int .i64 i8), (.int .i64 i9)] : List Value) ∧
    (∀ h10 : AH, h10 = h2.alloc (.cells ([(.int .i64 0), (.int .i64 0)] : List Value) 70 false) →
    (List.length ([(.int .i64 i8), (.int .i64 i9)] : List Value) = 2) ∧ ∃ h11 : AH, stN h10 h2.next 0 ([(.int .i64 i8), (.int .i64 i9)] : List Value) = some h11 ∧
    (∃ i12 : Int, ∃ i13 : Int, ldN h11 h2.next 0 2 = some ([(.int .i64 i12), (.int .i64 i13)] : List Value) ∧
    (Wf Tryz.prog K 123 [(.agg #[(.int .i64 i12), (.int .i64 i13)])] h11 fun r14 h15 =>
    (((r14 = (.bool true) ∧
    (∃ i16 : Int, ld1 h15 h2.next 0 = some (.int .i64 i16) ∧
    (((i16 : Int) ≤ i4 → Q (.bool false) h15) ∧
    (¬ (i16 : Int) ≤ i4 → ∃ i17 : Int, ld1 h15 h2.next 0 = some (.int .i64 i17) ∧
    (∃ i18 : Int, ld1 h15 h2.next 1 = some (.int .i64 i18) ∧
    (∀ i19 : Int, i19 = IntKind.wrap .i64 (i17 + i18) → ∀ i20 : Int, i20 = IntKind.wrap .i64 (i5 + 1) → ∃ j3, j3 < k1 ∧ I0 i19 i20 j3 h15)))))) ∨ (r14 = (.bool false) ∧
    (Q (.bool false) h15)))))))))) ∧
    (¬ (i5 : Int) < ((na0 : Nat) : Int) → Q (.bool true) h2)) :
    Wf Tryz.prog K 94 [(.slice pa0 na0 ca0)] h Q :=
  vcF_sound (hs := [(3, [(3, .int .i64 0), (8, .int .i64 0)])]) hk (Eq.mpr (by kernel_rfl) H)
theorem vc_span_Count {K : Xs} (hk : K 124 = none) (pa0 : Option Addr) (na0 ca0 : Nat) (h : AH) (Q : Value → AH → Prop) (H :
    Wf Tryz.prog K 94 [(.slice pa0 na0 ca0)] h fun r0 h1 =>
    (((r0 = (.bool true) ∧
    (∃ I2 : Int → Int → Nat → AH → Prop, (∃ n, I2 0 0 n h1) ∧
    ∀ (k3 : Nat) (h4 : AH), ∀ (i6 : Int), ∀ (i7 : Int), I2 i6 i7 k3 h4 →
    ((i7 : Int) < ((na0 : Nat) : Int) → derefP pa0 fun b8 o9 => (((0 : Int) ≤ i7) ∧ ((i7 : Int) < ((na0 : Nat) : Int)) ∧
    (∃ i10 : Int, ∃ i11 : Int, ldN h4 b8 (o9 + Int.toNat i7 * 2) 2 = some ([(.int .i64 i10), (.int .i64 i11)] : List Value) ∧
    (∀ h12 : AH, h12 = h4.alloc (.cells ([(.int .i64 0), (.int .i64 0)] : List Value) 70 false) →
    (List.length ([(.int .i64 i10), (.int .i64 i11)] : List Value) = 2) ∧ ∃ h13 : AH, stN h12 h4.next 0 ([(.int .i64 i10), (.int .i64 i11)] : List Value) = some h13 ∧
    (∃ i14 : Int, ld1 h13 h4.next 1 = some (.int .i64 i14) ∧
    (∀ i15 : Int, i15 = IntKind.wrap .i64 (i6 + i14) → ∀ i16 : Int, i16 = IntKind.wrap .i64 (i7 + 1) → ∃ j5, j5 < k3 ∧ I2 i15 i16 j5 h13)))))) ∧
    (¬ (i7 : Int) < ((na0 : Nat) : Int) → Q (.int .i64 i6) h4))) ∨ (r0 = (.bool false) ∧
    (Q (.int .i64 0) h1))))) :
    Wf Tryz.prog K 124 [(.slice pa0 na0 ca0)] h Q :=
  vcF_sound (hs := [(5, [(3, .int .i64 0), (11, .int .i64 0)])]) hk (Eq.mpr (by kernel_rfl) H)
theorem vc_span_List {K : Xs} (hk : K 95 = none) (pa0 : Option Addr) (na0 ca0 : Nat) (h : AH) (Q : Value → AH → Prop) (H :
    Wf Tryz.prog K 124 [(.slice pa0 na0 ca0)] h fun r0 h1 =>
    (∃ i2 : Int, r0 = (.int .i64 i2) ∧
    (((0 : Int) ≤ 0 ∧ (0 : Int) ≤ i2 ∧ (i2 : Int) ≤ 9223372036854775807 ∧ (8 : Int) * i2 ≤ 281474976710656) ∧ ∀ h3 : AH, h3 = h1.alloc (.cells ((List.replicate (Int.toNat i2) ([(.int .i64 0)] : List Value)).flatten) 3 false) →
    ∀ h4 : AH, h4 = h3.alloc (.cells ([(.slice none 0 0)] : List Value) 57 false) →
    ∃ h5 : AH, st1 h4 h3.next 0 (.slice (some ⟨h1.next, 0, none⟩) (Int.toNat 0) (Int.toNat i2)) = some h5 ∧
    (Wf Tryz.prog K 125 [(.slice pa0 na0 ca0)] h5 fun r6 h7 =>
    (∃ (g8 : FuncId) (cap9 : List Value), r6 = (.func (.func g8) #[] cap9.toArray) ∧
    (∃ (J10 : Nat → AH → Prop) (D11 : AX → AH → Prop) (N12 : Nat) (item13 : Nat → List Value) (G16 B17 : AH → AH → Prop),
    (K g8 = none ∧ ([10] : List Nat) = [10]) ∧
    (∀ i, i < N12 → ∃ i19 : Int, item13 i = [(.int .i64 i19)]) ∧
    (∀ h1 : AH, h1.next = h7.next + 1 → (∀ c, c ≠ h7.next → h1.get c = h7.get c) → J10 0 h1) ∧
    (∀ i h1 h2, J10 i h1 → Near h7.next h1 h2 → J10 i h2) ∧
    (∀ x h1 h2, D11 x h1 → Near h7.next h1 h2 → D11 x h2) ∧
    (∀ i h1 h2, J10 i h1 → G16 h1 h2 → J10 i h2) ∧ (∀ x h1 h2, D11 x h1 → G16 h1 h2 → D11 x h2) ∧ (∀ h1 h2, G16 h1 h2 → h2.get h7.next = h1.get h7.next) ∧
    (∀ (k14 : Nat) (h15 : AH), k14 < N12 → J10 k14 h15 → (∃ L, h15.get h7.next = some (.loop L)) → ∀ (i18 : Int), item13 k14 = [(.int .i64 i18)] →
    AX.normal = AX.normal ∧ (h15.get h7.next = h15.get h7.next) ∧ ∀ h20 : AH, Near h7.next h15 h20 → (∃ L, h20.get h7.next = some (.loop L)) →
    ∃ (p21 : Option Addr) (n22 c23 : Nat), ld1 h20 h3.next 0 = some (.slice p21 n22 c23) ∧
    (∀ h24 : AH, h24 = h20.alloc (.cells ([(.int .i64 i18)] : List Value) 3 false) →
    ∃ (p25 : Option Addr) (n26 c27 : Nat) (h28 : AH), aBuiltin Tryz.prog h24 .append #[57, 57] [(.slice p21 n22 c23), (.slice (some ⟨h20.next, 0, none⟩) 1 1)] = some (.slice p25 n26 c27, h28) ∧
    (∃ h29 : AH, st1 h28 h3.next 0 (.slice p25 n26 c27) = some h29 ∧
    ((h29.get h7.next = h20.get h7.next ∧ J10 (k14 + 1) h29 ∧ ∀ h5, Near h7.next h29 h5 → B17 h15 h5))))) ∧
    (∀ (JJ30 : Nat → AH → Prop) (DD31 : AH → Prop), (∀ i h1, JJ30 i h1 → J10 i h1) → (∀ i h1 h2, JJ30 i h1 → G16 h1 h2 → JJ30 i h2) → (∀ h1 h2, DD31 h1 → G16 h1 h2 → DD31 h2) →
    (∀ (k33 : Nat) (h32 : AH), k33 < N12 → JJ30 k33 h32 → Wy Tryz.prog K h7.next (item13 k33) h32 fun r35 h36 => ((r35 = .bool true ∧ JJ30 (k33 + 1) h36) ∨ (r35 = .bool false ∧ DD31 h36)) ∧ B17 h32 h36) →
    ∀ h34 : AH, JJ30 0 h34 → Wf Tryz.prog K g8 ([(Value.func (Fn.yield h7.next) #[] #[])] ++ cap9) h34 fun _ h37 => JJ30 N12 h37 ∨ DD31 h37) ∧
    (∀ h38 : AH, J10 N12 h38 → ∃ (p39 : Option Addr) (n40 c41 : Nat), ld1 (h38.del h7.next) h3.next 0 = some (.slice p39 n40 c41) ∧
    (Q (.slice p39 n40 c41) (h38.del h7.next))) ∧
    (∀ (x43 : AX) (h42 : AH), x43 ≠ .normal → D11 x43 h42 → memAX x43 [] = true))))))) :
    Wf Tryz.prog K 95 [(.slice pa0 na0 ca0)] h Q :=
  vcF_sound (hs := [(3, [(10, .int .i64 0)])]) hk (Eq.mpr (by kernel_rfl) H)
end Go.Am
