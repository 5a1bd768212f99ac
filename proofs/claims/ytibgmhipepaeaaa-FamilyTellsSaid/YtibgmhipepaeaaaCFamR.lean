/-
  WHICH LISTS ARE FAMILIES: records by themselves, their elders, their owners, their names.
-/
import Derived.Test.YtibgmhipepaeaaaCFam
set_option linter.unusedVariables false
set_option linter.unusedSimpArgs false
set_option maxRecDepth 100000
namespace Go.Am
open Go.Proofs
def ImpB (v : Value) (P : Prop) : Prop := (v = .bool true ∧ P) ∨ v = .bool false
def EntR (r : SetR) : Prop := (1 ≤ r.id ∧ r.id ≤ 281474976710655) ∧ (1 ≤ r.own ∧ r.own ≤ 281474976710655) ∧ r.prev ≤ 281474976710655 ∧ (1 ≤ r.blocks ∧ r.blocks ≤ 64) ∧ NameR r.name ∧ PtrRI r.root ∧ r.dn ≤ 4000 ∧ DeadR r.dead ∧ ((r.snap = true ∧ 1 ≤ r.stamp ∧ r.stamp ≤ 281474976710655) ∨ (r.snap = false ∧ r.stamp = 0 ∧ r.own = r.id))
structure KEnt (K : Xs) : Prop where
  eRight : K 44 = none
  nRight : K 74 = none
  qRight : K 75 = none
  dRight : K 76 = none
  dFits : K 103 = none
  qLess : K 104 = none
section
variable {K : Xs} {h : AH} {p : Option Addr} {n c : Nat} {rs : List SetR}
theorem entRight (kk : KEnt K) {r : SetR} (k : SetOk h r) : Wf Try.prog K 44 [.agg (setC r).toArray] h fun v h' => BoolIs v (EntR r) ∧ Old h h' := by
  refine vc_entry_Right kk.eRight _ _ _ _ _ _ _ _ _ _ _ _ _ h _ fun g0 e0 => ?_
  have o0 := old_of_alloc e0
  have c0 : g0.get h.next = some (.cells (setC r) _ false) := get_of_alloc e0
  have l0 : h.next < g0.next := by rw [next_of_alloc e0]; omega
  have no : ∀ {g : AH}, Old h g → ¬ EntR r → BoolIs (.bool false) (EntR r) ∧ Old h g := fun o q => ⟨.inr ⟨rfl, q⟩, o⟩
  refine ⟨_, ld1_at c0 rfl, fun a => no o0 (fun e => by have := e.1; omega), fun a1 => ⟨_, ld1_at c0 rfl, fun a => no o0 (fun e => by have := e.1; omega), fun a2 => ⟨_, ld1_at c0 rfl, fun a => no o0 (fun e => by have := e.2.1; omega), fun a3 => ⟨_, ld1_at c0 rfl, fun a => no o0 (fun e => by have := e.2.1; omega), fun a4 => ⟨_, ld1_at c0 rfl, fun a => no o0 (fun e => by have := e.2.2.1; omega), fun a5 => ⟨_, ld1_at c0 rfl, fun a => no o0 (fun e => by have := e.2.2.2.1; omega), fun a6 => ⟨_, ld1_at c0 rfl, fun a => no o0 (fun e => by have := e.2.2.2.1; omega), fun a7 => ⟨_, ld1_at c0 rfl, (nameRight kk.nRight r.name).mono ?_⟩⟩⟩⟩⟩⟩⟩⟩
  rintro _ g10 ⟨⟨rfl, k8⟩ | ⟨rfl, k8⟩, o10⟩
  rotate_left
  · exact .inr ⟨rfl, no (o0.trans o10) fun e => k8 e.2.2.2.2.1⟩
  have c10 := (o10.2 _ l0).trans c0
  have l10 : h.next < g10.next := Nat.lt_of_lt_of_le l0 o10.1
  refine .inl ⟨rfl, r.root.1, r.root.2.1, r.root.2.2, (ldN_of c10 (by simp [setC])).trans rfl, (ptrRightI kk.qRight k.root).mono ?_⟩
  rintro _ g15 ⟨⟨rfl, k9⟩ | ⟨rfl, k9⟩, o15⟩
  rotate_left
  · exact .inr ⟨rfl, no ((o0.trans o10).trans o15) fun e => k9 e.2.2.2.2.2.1⟩
  have c15 := (o15.2 _ l10).trans c10
  have l15 : h.next < g15.next := Nat.lt_of_lt_of_le l10 o15.1
  have o15' := (o0.trans o10).trans o15
  refine .inl ⟨rfl, _, _, _, ld1_at c15 rfl, fun a => no o15' fun e => by have := e.2.2.2.2.2.2.1; omega, fun a10 => ⟨_, _, _, ld1_at c15 rfl, (deadRight kk.dRight kk.dFits kk.qRight kk.qLess (k.shows.old o15') k.dead (by omega)).mono ?_⟩⟩
  rintro _ g23 ⟨⟨rfl, k11⟩ | ⟨rfl, k11⟩, o23⟩
  rotate_left
  · exact .inr ⟨rfl, no (o15'.trans o23) fun e => k11 e.2.2.2.2.2.2.2.1⟩
  have c23 := (o23.2 _ l15).trans c15
  have o23' := o15'.trans o23
  have yes : ((r.snap = true ∧ 1 ≤ r.stamp ∧ r.stamp ≤ 281474976710655) ∨ (r.snap = false ∧ r.stamp = 0 ∧ r.own = r.id)) → BoolIs (.bool true) (EntR r) ∧ Old h g23 := fun q => ⟨.inl ⟨rfl, by omega, by omega, by omega, by omega, k8, k9, by omega, k11, q⟩, o23'⟩
  have no2 : ¬ ((r.snap = true ∧ 1 ≤ r.stamp ∧ r.stamp ≤ 281474976710655) ∨ (r.snap = false ∧ r.stamp = 0 ∧ r.own = r.id)) → BoolIs (.bool false) (EntR r) ∧ Old h g23 := fun q => no o23' fun e => q e.2.2.2.2.2.2.2.2
  refine .inl ⟨rfl, ?_⟩
  cases hs : r.snap with
  | true => exact .inl ⟨ld1_at c23 (by simp [setC, hs]), _, ld1_at c23 rfl, fun a => ⟨_, ld1_at c23 rfl, fun b => yes (.inl ⟨hs, a, b⟩), fun b => no2 (by rw [hs]; simp; omega)⟩, fun a => no2 (by rw [hs]; simp; omega)⟩
  | false => exact .inr ⟨ld1_at c23 (by simp [setC, hs]), _, ld1_at c23 rfl, fun a => ⟨_, ld1_at c23 rfl, _, ld1_at c23 rfl, fun b => yes (.inr ⟨hs, a, b⟩), fun b => no2 (by rw [hs]; simp; omega)⟩, fun a => no2 (by rw [hs]; simp; omega)⟩
/-! ## What a record is called -/
abbrev Cal := Int × ByteArray
def calK (r : SetR) : Cal := (if r.snap = true then r.own else 0, r.name)
theorem callOfSpec (hk : K 45 = none) {b off : Nat} (T : Sets h (some ⟨b, off, none⟩) n rs) {i : Nat} (hi : i < n) (hi' : i < rs.length) :
    Wf Try.prog K 45 [.pointer (some ⟨b, off + i * 11, none⟩)] h fun v h' => v = .agg #[.int .u64 (calK rs[i]).1, .string (calK rs[i]).2] ∧ Old h h' := by
  refine vc_family_callOf hk _ h _ fun g0 e0 => ?_
  have o0 := old_of_alloc e0
  have n0 := next_of_alloc e0
  obtain ⟨hi2, hl2, h1, ok2⟩ := (T.old o0).at' hi
  have c0 := get_of_alloc e0
  generalize rs[i] = r at h1 ⊢
  refine derefP_at ?_
  cases hs : r.snap with
  | true =>
    refine .inl ⟨h1 2 _ (by simp [setC, hs]), derefP_at ⟨_, h1 3 _ rfl, derefP_at ⟨_, h1 1 _ rfl, rfl, _, stN_all c0 rfl, _, _, ldN_all (get_set_self _ _ _) rfl, ?_, ?_⟩⟩⟩
    · simp [calK, hs]
    · have nr := near_set h.next g0 (.cells [.int .u64 r.own, .string r.name] 73 false)
      exact ⟨by rw [nr.1]; exact o0.1, fun c hc => by rw [nr.2 c (by omega), o0.2 c hc]⟩
  | false =>
    refine .inr ⟨h1 2 _ (by simp [setC, hs]), derefP_at ⟨_, h1 1 _ rfl, rfl, _, stN_all c0 rfl, _, _, ldN_all (get_set_self _ _ _) rfl, ?_, ?_⟩⟩
    · simp [calK, hs]
    · have nr := near_set h.next g0 (.cells [.int .u64 0, .string r.name] 73 false)
      exact ⟨by rw [nr.1]; exact o0.1, fun c hc => by rw [nr.2 c (by omega), o0.2 c hc]⟩
/-! ## Elders -/
def flrOf (rs : List SetR) (s : SetR) : Int := if s.prev = 0 then 0 else match plcN rs s.prev with
  | none => 0
  | some j => match rs[j]? with
    | none => 0
    | some x => x.stamp
theorem flr_of {id : Int} {i : Nat} {r : SetR} (h1 : plcN rs id = some i) (h2 : rs[i]? = some r) : flr rs id = flrOf rs r := by
  unfold flr flrOf
  simp only [h1, h2]
  rfl
def ElderR (rs : List SetR) (s : SetR) : Prop := (s.prev ≠ 0 → ∃ j x, plcN rs s.prev = some j ∧ rs[j]? = some x ∧ x.snap = true ∧ (s.snap = true → x.stamp < s.stamp)) ∧ ∀ q ∈ s.dead, q.2.1 ≤ flrOf rs s
theorem deadLoop {Q : Value → AH → Prop} {pd : Option Addr} {nd : Nat} {ds : List PtI} (S : Shows h pd nd 3 (ptI ds)) (hnd : nd ≤ 1000000000000000) (fl : Int) (hQ : ∀ g, Old h g → (∀ q ∈ ds, q.2.1 ≤ fl) → Q (.bool true) g) (hN : ∀ g, Old h g → Q (.bool false) g) :
    ∃ I8 : Int → Nat → AH → Prop, (∃ n, I8 0 n h) ∧ ∀ (k9 : Nat) (h10 : AH) (i12 : Int), I8 i12 k9 h10 →
      ((i12 : Int) < ((nd : Nat) : Int) → derefP pd fun b13 o14 => (((0 : Int) ≤ i12) ∧ ((i12 : Int) < ((nd : Nat) : Int)) ∧
        (∃ i15 : Int, ∃ i16 : Int, ∃ i17 : Int, ldN h10 b13 (o14 + Int.toNat i12 * 3) 3 = some ([(.int .i64 i15), (.int .u64 i16), (.int .u32 i17)] : List Value) ∧
        (∀ h18 : AH, h18 = h10.alloc (.cells ([(.int .i64 0), (.int .u64 0), (.int .u32 0)] : List Value) 25 false) →
        (List.length ([(.int .i64 i15), (.int .u64 i16), (.int .u32 i17)] : List Value) = 3) ∧ ∃ h19 : AH, stN h18 h10.next 0 ([(.int .i64 i15), (.int .u64 i16), (.int .u32 i17)] : List Value) = some h19 ∧
        (∃ i20 : Int, ld1 h19 h10.next 1 = some (.int .u64 i20) ∧
        (((fl : Int) < i20 → Q (.bool false) h19) ∧
        (¬ (fl : Int) < i20 → ∀ i21 : Int, i21 = IntKind.wrap .i64 (i12 + 1) → ∃ j11, j11 < k9 ∧ I8 i21 j11 h19))))))) ∧
      (¬ (i12 : Int) < ((nd : Nat) : Int) → Q (.bool true) h10) := by
  have hn : nd = ds.length := by have := S.1; rw [ptI_len] at this; omega
  refine ⟨fun i k g => ∃ u : Nat, i = u ∧ u ≤ nd ∧ nd - u = k ∧ Old h g ∧ ∀ (j : Nat) q, j < u → ds[j]? = some q → q.2.1 ≤ fl, ⟨_, 0, rfl, Nat.zero_le _, rfl, Old.refl _, fun j q hj => absurd hj (Nat.not_lt_zero _)⟩, ?_⟩
  rintro k1 g2 i4 ⟨u, rfl, hu, rfl, o2, hb⟩
  refine ⟨fun z => ?_, fun z => hQ g2 o2 fun q hq => ?_⟩
  · have hud : u < ds.length := by omega
    obtain ⟨b, off, rfl, hld, -⟩ := (S.old o2).getN (i := u) (by omega)
    rw [ptI_get ds u hud] at hld
    refine derefP_at ⟨by omega, z, _, _, _, by rw [Int.toNat_natCast]; exact hld, fun g10 e10 => ?_⟩
    obtain ⟨g11, k11, n11, o11, v11⟩ := put_new e10 (vs := [.int .i64 ds[u].1, .int .u64 ds[u].2.1, .int .u32 ds[u].2.2]) rfl
    have w11 := v11 [] (fun c hc => by cases hc)
    refine ⟨rfl, g11, k11, _, ld1_at w11.1 rfl, fun y => hN _ (o2.trans o11), fun y i21 e21 => ?_⟩
    have e21 := i64w e21 (by omega) (by omega)
    refine ⟨nd - (u + 1), by omega, u + 1, by omega, by omega, rfl, o2.trans o11, fun j q hj hq => ?_⟩
    rcases Nat.lt_succ_iff_lt_or_eq.1 hj with hj | rfl
    · exact hb j q hj hq
    · rw [List.getElem?_eq_getElem hud] at hq
      cases hq
      omega
  · obtain ⟨j, hj⟩ := List.mem_iff_getElem?.1 hq
    exact hb j q (by have := (List.getElem?_eq_some_iff.1 hj).1; omega) hj
theorem elderSpec (hk : K 46 = none) (hp : K 54 = none) {b off : Nat} (T : Sets h (some ⟨b, off, none⟩) n rs) {i : Nat} (hi : i < n) (hi' : i < rs.length) :
    Wf Try.prog K 46 [.slice (some ⟨b, off, none⟩) n c, .pointer (some ⟨b, off + i * 11, none⟩)] h fun v h' => ImpB v (ElderR rs rs[i]) ∧ Old h h' := by
  have hn := T.1
  obtain ⟨hi2, hl2, h1, ok⟩ := T.at' hi
  have hri := List.getElem?_eq_getElem hi'
  generalize rs[i] = r at h1 ok hri ⊢
  have hroom : r.dn ≤ 1000000000000000 := by have := ok.room; simp only [reachBytes] at this; omega
  refine vc_family_elderRight hk _ _ _ _ h _ (derefP_at ⟨_, h1 4 _ rfl, fun z => derefP_at ⟨_, _, _, h1 10 _ rfl, deadLoop (Q := fun v h' => ImpB v (ElderR rs r) ∧ Old h h') ok.shows hroom 0 (fun g o q => ⟨.inl ⟨rfl, fun y => absurd z y, fun x hx => ?_⟩, o⟩) (fun g o => ⟨.inr rfl, o⟩)⟩, fun z => derefP_at ⟨_, h1 4 _ rfl, (placeSpec hp T _).mono ?_⟩⟩)
  · unfold flrOf
    rw [if_pos z]
    exact q x hx
  · rintro _ _ ⟨rfl, rfl⟩
    refine ⟨_, rfl, fun y => ⟨.inr rfl, Old.refl _⟩, fun y => ?_⟩
    cases e : plcN rs r.prev with
    | none => rw [plc_none e] at y; omega
    | some j =>
      obtain ⟨hj, -⟩ := plcN_at e
      obtain ⟨hj2, hl3, h2, ok3⟩ := T.at' (i := j) (by omega)
      have hrj := List.getElem?_eq_getElem hj
      rw [plc_some e] at y ⊢
      generalize rs[j] = x at h2 hrj
      have hfl : flrOf rs r = x.stamp := by
        unfold flrOf
        simp only [if_neg z, e, hrj]
      refine derefP_at ⟨by omega, by omega, ?_⟩
      rw [Int.toNat_natCast]
      cases hx : x.snap with
      | false => exact .inr ⟨h2 2 _ (by simp [setC, hx]), .inr rfl, Old.refl _⟩
      | true =>
        refine .inl ⟨h2 2 _ (by simp [setC, hx]), derefP_at ⟨by omega, by omega, _, h2 5 _ rfl, derefP_at ?_⟩⟩
        cases hr : r.snap with
        | true =>
          refine .inl ⟨h1 2 _ (by simp [setC, hr]), derefP_at ⟨_, h1 5 _ rfl, fun w => ⟨.inr rfl, Old.refl _⟩, fun w => derefP_at ⟨_, _, _, h1 10 _ rfl, deadLoop (Q := fun v h' => ImpB v (ElderR rs r) ∧ Old h h') ok.shows hroom _ (fun g o q => ⟨.inl ⟨rfl, fun _ => ⟨j, x, e, hrj, hx, fun _ => by omega⟩, fun a ha => by rw [hfl]; exact q a ha⟩, o⟩) (fun g o => ⟨.inr rfl, o⟩)⟩⟩⟩
        | false =>
          refine .inr ⟨h1 2 _ (by simp [setC, hr]), derefP_at ⟨_, _, _, h1 10 _ rfl, deadLoop (Q := fun v h' => ImpB v (ElderR rs r) ∧ Old h h') ok.shows hroom _ (fun g o q => ⟨.inl ⟨rfl, fun _ => ⟨j, x, e, hrj, hx, fun w => by rw [hr] at w; cases w⟩, fun a ha => by rw [hfl]; exact q a ha⟩, o⟩) (fun g o => ⟨.inr rfl, o⟩)⟩⟩
end
end Go.Am
