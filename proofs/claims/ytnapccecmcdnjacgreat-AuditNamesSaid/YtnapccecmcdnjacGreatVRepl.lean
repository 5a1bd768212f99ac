/-
  WEAKEST CONDITIONS of some functions of this program, printed by a program.
-/
import Derived.Test.YtnapccecmcdnjacGreatAmG
import Derived.Test.YtnapccecmcdnjacGreatRows
set_option linter.unusedVariables false
set_option maxRecDepth 100000
namespace Go.Am
open Go.Proofs
theorem vc_slog_Replay {K : Xs} (hk : K 57 = none) (pa0 : Option Addr) (na0 ca0 : Nat) (pa1 : Option Addr) (na1 ca1 : Nat) (h : AH) (Q : Value → AH → Prop) (H :
    Wf Tryz.prog K 94 [(.slice pa0 na0 ca0)] h fun r0 h1 =>
    (((r0 = (.bool true) ∧
    (∃ z2 : List Value, zeroCellsOf Tryz.prog 102 = some z2 ∧ ∀ h3 : AH, h3 = h1.alloc (.cells z2 102 false) →
    Wf Tryz.prog K 95 [(.slice pa0 na0 ca0)] h3 fun r4 h5 =>
    (∃ (p6 : Option Addr) (n7 c8 : Nat), r4 = (.slice p6 n7 c8) ∧
    (∃ I9 : Int → Nat → AH → Prop, (∃ n, I9 0 n h5) ∧
    ∀ (k10 : Nat) (h11 : AH), ∀ (i13 : Int), I9 i13 k10 h11 →
    ((i13 : Int) < ((n7 : Nat) : Int) → derefP p6 fun b14 o15 => (((0 : Int) ≤ i13) ∧ ((i13 : Int) < ((n7 : Nat) : Int)) ∧
    (∃ i16 : Int, ld1 h11 b14 (o15 + Int.toNat i13 * 1) = some (.int .i64 i16) ∧
    (((0 : Int) ≤ i16) ∧ ((i16 : Int) < 4096) ∧
    (∃ h17 : AH, st1 h11 h1.next (0 + Int.toNat i16 * 1) (.bool true) = some h17 ∧
    (∀ i18 : Int, i18 = IntKind.wrap .i64 (i13 + 1) → ∃ j12, j12 < k10 ∧ I9 i18 j12 h17)))))) ∧
    (¬ (i13 : Int) < ((n7 : Nat) : Int) → ∃ I19 : Int → Nat → AH → Prop, (∃ n, I19 0 n h11) ∧
    ∀ (k20 : Nat) (h21 : AH), ∀ (i23 : Int), I19 i23 k20 h21 →
    ((i23 : Int) < ((na1 : Nat) : Int) → derefP pa1 fun b24 o25 => (((0 : Int) ≤ i23) ∧ ((i23 : Int) < ((na1 : Nat) : Int)) ∧
    (∃ b26 : Bool, ∃ i27 : Int, ∃ i28 : Int, ldN h21 b24 (o25 + Int.toNat i23 * 3) 3 = some ([(.bool b26), (.int .i64 i27), (.int .i64 i28)] : List Value) ∧
    (∀ h29 : AH, h29 = h21.alloc (.cells ([(.bool false), (.int .i64 0), (.int .i64 0)] : List Value) 188 false) →
    (List.length ([(.bool b26), (.int .i64 i27), (.int .i64 i28)] : List Value) = 3) ∧ ∃ h30 : AH, stN h29 h21.next 0 ([(.bool b26), (.int .i64 i27), (.int .i64 i28)] : List Value) = some h30 ∧
    (∃ b31 : Bool, ∃ i32 : Int, ∃ i33 : Int, ldN h30 h21.next 0 3 = some ([(.bool b31), (.int .i64 i32), (.int .i64 i33)] : List Value) ∧
    (Wf Tryz.prog K 93 [(.agg #[(.bool b31), (.int .i64 i32), (.int .i64 i33)])] h30 fun r34 h35 =>
    (((r34 = (.bool true) ∧
    (∃ i36 : Int, ld1 h35 h21.next 2 = some (.int .i64 i36) ∧
    (∃ I37 : Int → Nat → AH → Prop, (∃ n, I37 0 n h35) ∧
    ∀ (k38 : Nat) (h39 : AH), ∀ (i41 : Int), I37 i41 k38 h39 →
    ((i41 : Int) < i36 → ∃ i42 : Int, ld1 h39 h21.next 1 = some (.int .i64 i42) ∧
    (∀ i43 : Int, i43 = IntKind.wrap .i64 (i42 + i41) → ((0 : Int) ≤ i43) ∧ ((i43 : Int) < 4096) ∧
    (((ld1 h39 h1.next (0 + Int.toNat i43 * 1) = some (.bool true) ∧
    (((ld1 h39 h21.next 0 = some (.bool true) ∧
    (Q (.tuple #[(.slice none 0 0), (.int .i64 81)]) h39)) ∨ (ld1 h39 h21.next 0 = some (.bool false) ∧
    (((ld1 h39 h21.next 0 = some (.bool true) ∧
    (((0 : Int) ≤ i43) ∧ ((i43 : Int) < 4096) ∧
    (∃ h44 : AH, st1 h39 h1.next (0 + Int.toNat i43 * 1) (.bool true) = some h44 ∧
    (∀ i45 : Int, i45 = IntKind.wrap .i64 (i41 + 1) → ∃ j40, j40 < k38 ∧ I37 i45 j40 h44)))) ∨ (ld1 h39 h21.next 0 = some (.bool false) ∧
    (((0 : Int) ≤ i43) ∧ ((i43 : Int) < 4096) ∧
    (∃ h46 : AH, st1 h39 h1.next (0 + Int.toNat i43 * 1) (.bool false) = some h46 ∧
    (∀ i47 : Int, i47 = IntKind.wrap .i64 (i41 + 1) → ∃ j40, j40 < k38 ∧ I37 i47 j40 h46)))))))))) ∨ (ld1 h39 h1.next (0 + Int.toNat i43 * 1) = some (.bool false) ∧
    (((ld1 h39 h21.next 0 = some (.bool true) ∧
    (((ld1 h39 h21.next 0 = some (.bool true) ∧
    (((0 : Int) ≤ i43) ∧ ((i43 : Int) < 4096) ∧
    (∃ h48 : AH, st1 h39 h1.next (0 + Int.toNat i43 * 1) (.bool true) = some h48 ∧
    (∀ i49 : Int, i49 = IntKind.wrap .i64 (i41 + 1) → ∃ j40, j40 < k38 ∧ I37 i49 j40 h48)))) ∨ (ld1 h39 h21.next 0 = some (.bool false) ∧
    (((0 : Int) ≤ i43) ∧ ((i43 : Int) < 4096) ∧
    (∃ h50 : AH, st1 h39 h1.next (0 + Int.toNat i43 * 1) (.bool false) = some h50 ∧
    (∀ i51 : Int, i51 = IntKind.wrap .i64 (i41 + 1) → ∃ j40, j40 < k38 ∧ I37 i51 j40 h50))))))) ∨ (ld1 h39 h21.next 0 = some (.bool false) ∧
    (Q (.tuple #[(.slice none 0 0), (.int .i64 81)]) h39))))))))) ∧
    (¬ (i41 : Int) < i36 → ∀ i52 : Int, i52 = IntKind.wrap .i64 (i23 + 1) → ∃ j22, j22 < k20 ∧ I19 i52 j22 h39)))) ∨ (r34 = (.bool false) ∧
    (Q (.tuple #[(.slice none 0 0), (.int .i64 81)]) h35)))))))))) ∧
    (¬ (i23 : Int) < ((na1 : Nat) : Int) → ∃ l53 : List Value, ldN h21 h1.next 0 4096 = some l53 ∧
    (∃ I54 : Option Addr → Nat → Nat → Int → Nat → AH → Prop, (∃ n, I54 none 0 0 0 n h21) ∧
    ∀ (k55 : Nat) (h56 : AH), ∀ (p58 : Option Addr) (n59 : Nat) (c60 : Nat), ∀ (i61 : Int), I54 p58 n59 c60 i61 k55 h56 →
    ((i61 : Int) < 4096 → ((0 : Int) ≤ i61) ∧ ((i61 : Int) < 4096) ∧ ((((l53 : List Value)[(Int.toNat i61 * 1)]? = some (.bool true) ∧
    (∀ h62 : AH, h62 = h56.alloc (.cells ([(.int .i64 i61)] : List Value) 3 false) →
    ∃ (p63 : Option Addr) (n64 c65 : Nat) (h66 : AH), aBuiltin Tryz.prog h62 .append #[57, 57] [(.slice p58 n59 c60), (.slice (some ⟨h56.next, 0, none⟩) 1 1)] = some (.slice p63 n64 c65, h66) ∧
    (∀ i67 : Int, i67 = IntKind.wrap .i64 (i61 + 1) → ∃ j57, j57 < k55 ∧ I54 p63 n64 c65 i67 j57 h66))) ∨ ((l53 : List Value)[(Int.toNat i61 * 1)]? = some (.bool false) ∧
    (∀ i68 : Int, i68 = IntKind.wrap .i64 (i61 + 1) → ∃ j57, j57 < k55 ∧ I54 p58 n59 c60 i68 j57 h56))))) ∧
    (¬ (i61 : Int) < 4096 → Wf Tryz.prog K 17 [(.slice p58 n59 c60)] h56 fun r69 h70 =>
    (∃ (p71 : Option Addr) (n72 c73 : Nat), r69 = (.slice p71 n72 c73) ∧
    (Q (.tuple #[(.slice p71 n72 c73), (.int .i64 0)]) h70)))))))))) ∨ (r0 = (.bool false) ∧
    (Q (.tuple #[(.slice none 0 0), (.int .i64 81)]) h1))))) :
    Wf Tryz.prog K 57 [(.slice pa0 na0 ca0), (.slice pa1 na1 ca1)] h Q :=
  vcF_sound (hs := [(5, [(22, .int .i64 0)]), (10, [(31, .int .i64 0)]), (15, [(41, .int .i64 0)]), (25, [(13, .slice none 0 0), (62, .int .i64 0)])]) hk (Eq.mpr (by kernel_rfl) H)
theorem vc_slog_right {K : Xs} (hk : K 93 = none) (ba0_0 : Bool) (ia0_1 : Int) (ia0_2 : Int) (h : AH) (Q : Value → AH → Prop) (H :
    ∀ h0 : AH, h0 = h.alloc (.cells ([(.bool ba0_0), (.int .i64 ia0_1), (.int .i64 ia0_2)] : List Value) 188 false) →
    ∃ i1 : Int, ∃ i2 : Int, ldN h0 h.next 1 2 = some ([(.int .i64 i1), (.int .i64 i2)] : List Value) ∧
    (∀ h3 : AH, h3 = h0.alloc (.cells ([(.int .i64 i1), (.int .i64 i2)] : List Value) 70 false) →
    Wf Tryz.prog K 94 [(.slice (some ⟨h0.next, 0, none⟩) 1 1)] h3 fun r4 h5 =>
    (((r4 = (.bool true) ∧
    (Q (.bool true) h5)) ∨ (r4 = (.bool false) ∧
    (Q (.bool false) h5)))))) :
    Wf Tryz.prog K 93 [(.agg #[(.bool ba0_0), (.int .i64 ia0_1), (.int .i64 ia0_2)])] h Q :=
  vcF_sound (hs := []) hk (Eq.mpr (by kernel_rfl) H)
end Go.Am
