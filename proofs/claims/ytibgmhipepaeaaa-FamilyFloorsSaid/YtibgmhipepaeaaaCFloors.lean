/-
  FLOORS ARE ELDERS' STAMPS: the law of a family, as the abstract machine runs it.
-/
import Derived.Test.YtibgmhipepaeaaaCFamT
import Derived.Test.YtibgmhipepaeaaaCFamA
import Derived.Test.YtibgmhipepaeaaaAmF
set_option linter.unusedVariables false
set_option linter.unusedSimpArgs false
set_option maxRecDepth 100000
namespace Go.Am
open Go.Proofs
section
variable {K : Xs} {h : AH} {p : Option Addr} {n c : Nat} {rs : List SetR}
theorem floorTail (kF : K 19 = none) (kP : K 54 = none) {h47 : AH} {sb : Nat} {fl : Int} {pa0 : Option Addr} {na0 ca0 : Nat} {E : AH → Prop} {r : SetR} {ty : TypeId} (T : Sets h47 pa0 na0 rs) (hn : na0 ≤ 40) (ok : SetOk h47 r) (cb : h47.get sb = some (.cells (setC r) ty false)) (lt : sb < h47.next)
    (hd : ∀ q ∈ r.dead, q.2.1 ≤ fl) (hx : ∀ x ∈ rs, x.prev = r.prev → flr rs x.id = fl) (hE : ∀ g, Old h47 g → E g) :
    ∃ (p51 : Option Addr) (n52 c53 : Nat), ld1 h47 sb 10 = some (.slice p51 n52 c53) ∧
    (∃ I54 : Int → Nat → AH → Prop, (∃ n, I54 0 n h47) ∧
    ∀ (k55 : Nat) (h56 : AH) (i58 : Int), I54 i58 k55 h56 →
    ((i58 : Int) < ((n52 : Nat) : Int) → derefP p51 fun b59 o60 => (((0 : Int) ≤ i58) ∧ ((i58 : Int) < ((n52 : Nat) : Int)) ∧
    (∃ i61 : Int, ∃ i62 : Int, ∃ i63 : Int, ldN h56 b59 (o60 + Int.toNat i58 * 3) 3 = some ([(.int .i64 i61), (.int .u64 i62), (.int .u32 i63)] : List Value) ∧
    (∀ h64 : AH, h64 = h56.alloc (.cells ([(.int .i64 0), (.int .u64 0), (.int .u32 0)] : List Value) 25 false) →
    (List.length ([(.int .i64 i61), (.int .u64 i62), (.int .u32 i63)] : List Value) = 3) ∧ ∃ h65 : AH, stN h64 h56.next 0 ([(.int .i64 i61), (.int .u64 i62), (.int .u32 i63)] : List Value) = some h65 ∧
    (∃ i66 : Int, ld1 h65 h56.next 1 = some (.int .u64 i66) ∧
    (((fl : Int) < i66 → (Value.bool false = Value.bool true)) ∧
    (¬ (fl : Int) < i66 → ∀ i67 : Int, i67 = IntKind.wrap .i64 (i58 + 1) → ∃ j57, j57 < k55 ∧ I54 i67 j57 h65))))))) ∧
    (¬ (i58 : Int) < ((n52 : Nat) : Int) → ∃ I68 : Int → Nat → AH → Prop, (∃ n, I68 0 n h56) ∧
    ∀ (k69 : Nat) (h70 : AH) (i72 : Int), I68 i72 k69 h70 →
    ((i72 : Int) < ((na0 : Nat) : Int) → derefP pa0 fun b73 o74 => (((0 : Int) ≤ i72) ∧ ((i72 : Int) < ((na0 : Nat) : Int)) ∧
    (∃ i75 : Int, ∃ s76 : ByteArray, ∃ b77 : Bool, ∃ i78 : Int, ∃ i79 : Int, ∃ i80 : Int, ∃ i81 : Int, ∃ i82 : Int, ∃ i83 : Int, ∃ i84 : Int, ∃ (p85 : Option Addr) (n86 c87 : Nat), ldN h70 b73 (o74 + Int.toNat i72 * 11) 11 = some ([(.int .u64 i75), (.string s76), (.bool b77), (.int .u64 i78), (.int .u64 i79), (.int .u64 i80), (.int .i64 i81), (.int .i64 i82), (.int .u64 i83), (.int .u32 i84), (.slice p85 n86 c87)] : List Value) ∧
    (∀ h88 : AH, h88 = h70.alloc (.cells ([(.int .u64 0), (.string (ByteArray.mk #[])), (.bool false), (.int .u64 0), (.int .u64 0), (.int .u64 0), (.int .i64 0), (.int .i64 0), (.int .u64 0), (.int .u32 0), (.slice none 0 0)] : List Value) 28 false) →
    (List.length ([(.int .u64 i75), (.string s76), (.bool b77), (.int .u64 i78), (.int .u64 i79), (.int .u64 i80), (.int .i64 i81), (.int .i64 i82), (.int .u64 i83), (.int .u32 i84), (.slice p85 n86 c87)] : List Value) = 11) ∧ ∃ h89 : AH, stN h88 h70.next 0 ([(.int .u64 i75), (.string s76), (.bool b77), (.int .u64 i78), (.int .u64 i79), (.int .u64 i80), (.int .i64 i81), (.int .i64 i82), (.int .u64 i83), (.int .u32 i84), (.slice p85 n86 c87)] : List Value) = some h89 ∧
    (∃ i90 : Int, ld1 h89 h70.next 4 = some (.int .u64 i90) ∧
    (∃ i91 : Int, ld1 h89 sb 4 = some (.int .u64 i91) ∧
    (((i90 : Int) = i91 → ∃ i92 : Int, ld1 h89 h70.next 0 = some (.int .u64 i92) ∧
    (Wf Try.prog K 19 [(.slice pa0 na0 ca0), (.int .u64 i92)] h89 fun r93 h94 =>
    (∃ i95 : Int, r93 = (.int .u64 i95) ∧
    (((i95 : Int) = fl → ∀ i96 : Int, i96 = IntKind.wrap .i64 (i72 + 1) → ∃ j71, j71 < k69 ∧ I68 i96 j71 h94) ∧
    (¬ (i95 : Int) = fl → (Value.bool false = Value.bool true)))))) ∧
    (¬ (i90 : Int) = i91 → ∀ i97 : Int, i97 = IntKind.wrap .i64 (i72 + 1) → ∃ j71, j71 < k69 ∧ I68 i97 j71 h89)))))))) ∧
    (¬ (i72 : Int) < ((na0 : Nat) : Int) → E h70))) := by
  have hroom : r.dn ≤ 1000000000000000 := by have := ok.room; simp only [reachBytes] at this; omega
  have hdn := ok.len
  refine ⟨_, _, _, ld1_at cb rfl, fun i k g => ∃ u : Nat, i = u ∧ u ≤ r.dn ∧ r.dn - u = k ∧ Old h47 g, ⟨_, 0, rfl, Nat.zero_le _, rfl, Old.refl _⟩, ?_⟩
  rintro k1 g2 i4 ⟨u, rfl, hu, rfl, o2⟩
  refine ⟨fun z => ?_, fun z => ?_⟩
  · have hud : u < r.dead.length := by omega
    obtain ⟨b, off, hdp, hld, -⟩ := (ok.shows.old o2).getN (i := u) (by omega)
    rw [ptI_get r.dead u hud] at hld
    have hq := hd _ (List.getElem_mem hud)
    rw [hdp]
    refine derefP_at ⟨by omega, z, _, _, _, by rw [Int.toNat_natCast]; exact hld, fun g10 e10 => ?_⟩
    obtain ⟨g11, k11, n11, o11, v11⟩ := put_new e10 (vs := [.int .i64 r.dead[u].1, .int .u64 r.dead[u].2.1, .int .u32 r.dead[u].2.2]) rfl
    have w11 := v11 [] (fun c hc => by cases hc)
    refine ⟨rfl, g11, k11, _, ld1_at w11.1 rfl, fun y => absurd y (by omega), fun y i21 e21 => ?_⟩
    have e21 := i64w e21 (by omega) (by omega)
    exact ⟨r.dn - (u + 1), by omega, u + 1, by omega, by omega, rfl, o2.trans o11⟩
  · refine ⟨fun i k g => ∃ u : Nat, i = u ∧ u ≤ na0 ∧ na0 - u = k ∧ Old h47 g, ⟨_, 0, rfl, Nat.zero_le _, rfl, o2⟩, ?_⟩
    rintro k3 g3 i5 ⟨u2, rfl, hu2, rfl, o3⟩
    refine ⟨fun y => ?_, fun y => hE g3 o3⟩
    obtain ⟨b, off, rfl, hi', hl, h1, ok1⟩ := (T.old o3).at (i := u2) (by omega)
    have hxm := hx _ (List.getElem_mem hi')
    refine derefP_at ⟨by omega, y, _, _, _, _, _, _, _, _, _, _, _, _, _, by rw [Int.toNat_natCast]; exact hl, fun g10 e10 => ?_⟩
    obtain ⟨g11, k11, n11, o11, v11⟩ := put_new e10 (vs := setC rs[u2]) rfl
    have w11 := v11 [] (fun c hc => by cases hc)
    have oo := o3.trans o11
    have cb11 := (oo.2 _ lt).trans cb
    refine ⟨rfl, g11, k11, _, ld1_at w11.1 rfl, _, ld1_at cb11 rfl, fun e => ⟨_, ld1_at w11.1 rfl, (floorSpec kF kP (T.old oo) _).mono ?_⟩, fun e i97 e97 => ?_⟩
    · rintro _ _ ⟨rfl, rfl⟩
      refine ⟨_, rfl, fun _ i96 e96 => ?_, fun w => absurd (hxm e) w⟩
      have e96 := i64w e96 (by omega) (by omega)
      exact ⟨na0 - (u2 + 1), by omega, u2 + 1, by omega, by omega, rfl, oo⟩
    · have e97 := i64w e97 (by omega) (by omega)
      exact ⟨na0 - (u2 + 1), by omega, u2 + 1, by omega, by omega, rfl, oo⟩
theorem floorsTrue (hk : K 6 = none) (ha : K 12 = some (.sum xTrue)) (kk : KRight K) (kF : K 19 = none) (kN : K 17 = none) (kC : K 42 = none) (T : Sets h p n rs) :
    Wf Try.prog K 6 [.slice p n c] h fun v _ => v = .bool true := by
  refine vc_aquiferlaw16_FamilyFloors hk _ _ _ h _ (Wf_sum ha (v := .bool true) (h' := h) rfl (Nat.le_refl _) (.inl ⟨rfl, fun _ => rfl, fun hn40 => (rightSpec kk T _).mono ?_⟩))
  have hn := T.1
  rintro _ g3 ⟨⟨rfl, R⟩ | rfl, o3⟩
  rotate_left
  · exact .inr ⟨rfl, rfl⟩
  refine .inl ⟨rfl, fun i k g => ∃ u : Nat, i = u ∧ u ≤ n ∧ n - u = k ∧ Old h g, ⟨_, 0, rfl, Nat.zero_le _, rfl, o3⟩, ?_⟩
  rintro k5 g6 i8 ⟨u, rfl, hu, rfl, o6⟩
  refine ⟨fun z => ?_, fun _ => rfl⟩
  obtain ⟨b, off, rfl, hi', hl, h1, ok⟩ := (T.old o6).at (i := u) (by omega)
  have hru := List.getElem?_eq_getElem hi'
  refine derefP_at ⟨by omega, z, _, _, _, _, _, _, _, _, _, _, _, _, _, by rw [Int.toNat_natCast]; exact hl, fun g24 e24 => ?_⟩
  obtain ⟨g25, k25, n25, o25, v25⟩ := put_new e24 (vs := setC rs[u]) rfl
  have w25 := v25 [] (fun c hc => by cases hc)
  have o25' := o6.trans o25
  have hrm := List.getElem_mem hi'
  generalize rs[u] = r at hl h1 ok hru v25 w25 k25 hrm ⊢
  obtain ⟨kE, kO⟩ := R.2.2.2.2 r hrm
  have kEnt := (R.2.2.1 u r hru).1
  have hfl := flr_of (R.uniq hru) hru
  have hsame : ∀ x ∈ rs, x.prev = r.prev → flr rs x.id = flr rs r.id := fun x hx e => by
    obtain ⟨j, hj⟩ := List.mem_iff_getElem?.1 hx
    rw [hfl, flr_of (R.uniq hj) hj]
    unfold flrOf
    rw [e]
  refine ⟨rfl, g25, k25, _, ld1_at w25.1 rfl, (floorSpec kF kk.hang.place (T.old o25') _).mono ?_⟩
  rintro _ _ ⟨rfl, rfl⟩
  refine ⟨_, rfl, _, ld1_at w25.1 rfl, (findSpec kN kk.hang.place kC (T.old o25') _).mono ?_⟩
  have step : ∀ g, Old g25 g → ∀ i98 : Int, i98 = IntKind.wrap .i64 ((u : Int) + 1) → ∃ j7, j7 < n - u ∧ ∃ u : Nat, i98 = u ∧ u ≤ n ∧ n - u = j7 ∧ Old h g := fun g o i98 e98 => by
    have e98 := i64w e98 (by omega) (by omega)
    exact ⟨n - (u + 1), by omega, u + 1, by omega, by omega, rfl, o25'.trans o⟩
  rintro v g32 ⟨hv, o32⟩
  rcases hv with ⟨i, x, p', c', e1, e2, rfl, ok'⟩ | ⟨e1, rfl⟩
  · refine ⟨_, _, _, _, _, _, _, _, _, _, _, _, _, .inl ⟨rfl, fun g46 e46 => ?_⟩⟩
    obtain ⟨g47, k47, n47, o47, v47⟩ := put_new e46 (vs := setC { x with dp := p', dc := c' }) rfl
    have w47 := v47 [] (fun c hc => by cases hc)
    have o47' := o32.trans o47
    have cb47 := (o47'.2 _ w25.2.1).trans w25.1
    have lt47 : g6.next < g47.next := Nat.lt_of_lt_of_le w25.2.1 o47'.1
    have hx1 : x.id = r.prev := by
      obtain ⟨hi, e⟩ := plcN_at e1
      rw [List.getElem?_eq_getElem hi] at e2
      cases e2
      exact e
    have hx2 := (R.2.2.1 i x e2).1.1
    have hp0 : r.prev ≠ 0 := by omega
    have hflx : flr rs r.id = x.stamp := by
      rw [hfl]
      unfold flrOf
      simp only [if_neg hp0, e1, e2]
    refine ⟨rfl, g47, k47, _, ld1_at cb47 rfl, fun y => absurd y hp0, fun _ => ⟨_, ld1_at w47.1 rfl, fun _ => ?_, fun y => absurd hflx y⟩⟩
    have tail := fun (E : AH → Prop) => floorTail kF kk.hang.place (E := E) (ca0 := c) (T.old (o25'.trans o47')) (by omega) (ok.old (o25.trans o47')) cb47 lt47 (fun q hq => by rw [hfl]; exact kE.2 q hq) hsame
    rcases Bool.eq_false_or_eq_true r.snap with hs | hs
    · refine .inl ⟨ld1_at cb47 (by simp [setC, hs]), _, ld1_at cb47 rfl, fun y => ?_, fun _ => tail _ fun g o => step g (o47'.trans o)⟩
      obtain ⟨j, x', q1, q2, q3, q4⟩ := kE.1 hp0
      rw [e1] at q1
      cases q1
      rw [e2] at q2
      cases q2
      have := q4 hs
      omega
    · exact .inr ⟨ld1_at cb47 (by simp [setC, hs]), tail _ fun g o => step g (o47'.trans o)⟩
  · refine ⟨_, _, _, _, _, _, _, _, _, _, _, _, _, .inr ⟨rfl, fun g46 e46 => ?_⟩⟩
    obtain ⟨g47, k47, n47, o47, v47⟩ := put_new e46 (vs := setC zeroR) rfl
    have o47' := o32.trans o47
    have cb47 := (o47'.2 _ w25.2.1).trans w25.1
    have lt47 : g6.next < g47.next := Nat.lt_of_lt_of_le w25.2.1 o47'.1
    have hp0 : r.prev = 0 := Classical.byContradiction fun y => by
      obtain ⟨j, x', q1, -⟩ := kE.1 y
      rw [e1] at q1
      cases q1
    have hfl0 : flr rs r.id = 0 := by
      rw [hfl]
      unfold flrOf
      rw [if_pos hp0]
    refine ⟨rfl, g47, k47, _, ld1_at cb47 rfl, fun _ => ⟨fun _ => ?_, fun y => absurd hfl0 y⟩, fun y => absurd hp0 y⟩
    have tail := fun (E : AH → Prop) => floorTail kF kk.hang.place (E := E) (ca0 := c) (T.old (o25'.trans o47')) (by omega) (ok.old (o25.trans o47')) cb47 lt47 (fun q hq => by rw [hfl]; exact kE.2 q hq) hsame
    rcases Bool.eq_false_or_eq_true r.snap with hs | hs
    · refine .inl ⟨ld1_at cb47 (by simp [setC, hs]), _, ld1_at cb47 rfl, fun y => ?_, fun _ => tail _ fun g o => step g (o47'.trans o)⟩
      rcases kEnt.2.2.2.2.2.2.2.2 with q | q
      · omega
      · rw [hs] at q
        cases q.1
    · exact .inr ⟨ld1_at cb47 (by simp [setC, hs]), tail _ fun g o => step g (o47'.trans o)⟩
/-! ## Arguments -/
end
end Go.Am
