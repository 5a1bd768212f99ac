/-
  WHICH LISTS ARE FAMILIES: records by themselves, their elders, their owners, their names.
-/
import Derived.Test.YtibgmhipepaeaaaCFam
set_option linter.unusedVariables false
set_option linter.unusedSimpArgs false
set_option maxRecDepth 100000
namespace Go.Am
open Go.Proofs
def EntR (r : SetR) : Prop := (1 ≤ r.id ∧ r.id ≤ 281474976710655) ∧ (1 ≤ r.own ∧ r.own ≤ 281474976710655) ∧ r.prev ≤ 281474976710655 ∧ (1 ≤ r.blocks ∧ r.blocks ≤ 64) ∧ NameR r.name ∧ PtrRI r.root ∧ r.dn ≤ 4000 ∧ DeadR r.dead ∧ ((r.snap = true ∧ 1 ≤ r.stamp ∧ r.stamp ≤ 281474976710655) ∨ (r.snap = false ∧ r.stamp = 0 ∧ r.own = r.id))
structure KEnt (K : Xs) : Prop where
 eRight : K 44 = none
 nRight : K 74 = none
 qRight : K 75 = none
 dRight : K 76 = none
 dFits : K 103 = none
 qLess : K 104 = none
section
variable {K : Xs} {h : AH} {p : Option Addr} {n c : Nat} {rs : List SetR}
theorem entRight (kk : KEnt K) {r : SetR} (k : SetOk h r) : Wf Try.prog K 44 [.agg (setC r).toArray] h fun v h' => BoolIs v (EntR r) ∧ Old h h' := by
 refine vc_entry_Right kk.eRight _ _ _ _ _ _ _ _ _ _ _ _ _ h _ fun g0 e0 => ?_
 have o0 := old_of_alloc e0
 have c0 : g0.get h.next = some (.cells (setC r) _ false) := get_of_alloc e0
 have l0 : h.next < g0.next := by rw [next_of_alloc e0]; omega
 have no : ∀ {g : AH}, Old h g → ¬ EntR r → BoolIs (.bool false) (EntR r) ∧ Old h g := fun o q => ⟨.inr ⟨rfl, q⟩, o⟩
 refine ⟨_, ld1_at c0 rfl, fun a => no o0 (fun e => by have := e.1; omega), fun a1 => ⟨_, ld1_at c0 rfl, fun a => no o0 (fun e => by have := e.1; omega), fun a2 => ⟨_, ld1_at c0 rfl, fun a => no o0 (fun e => by have := e.2.1; omega), fun a3 => ⟨_, ld1_at c0 rfl, fun a => no o0 (fun e => by have := e.2.1; omega), fun a4 => ⟨_, ld1_at c0 rfl, fun a => no o0 (fun e => by have := e.2.2.1; omega), fun a5 => ⟨_, ld1_at c0 rfl, fun a => no o0 (fun e => by have := e.2.2.2.1; omega), fun a6 => ⟨_, ld1_at c0 rfl, fun a => no o0 (fun e => by have := e.2.2.2.1; omega), fun a7 => ⟨_, ld1_at c0 rfl, (nameRight kk.nRight r.name).mono ?_⟩⟩⟩⟩⟩⟩⟩⟩
 rintro _ g10 ⟨⟨rfl, k8⟩ | ⟨rfl, k8⟩, o10⟩
 rotate_left
 ·exact .inr ⟨rfl, no (o0.trans o10) fun e => k8 e.2.2.2.2.1⟩
 have c10 := (o10.2 _ l0).trans c0
 have l10 : h.next < g10.next := Nat.lt_of_lt_of_le l0 o10.1
 refine .inl ⟨rfl, r.root.1, r.root.2.1, r.root.2.2, (ldN_of c10 (by simp [setC])).trans rfl, (ptrRightI kk.qRight k.root).mono ?_⟩
 rintro _ g15 ⟨⟨rfl, k9⟩ | ⟨rfl, k9⟩, o15⟩
 rotate_left
 ·exact .inr ⟨rfl, no ((o0.trans o10).trans o15) fun e => k9 e.2.2.2.2.2.1⟩
 have c15 := (o15.2 _ l10).trans c10
 have l15 : h.next < g15.next := Nat.lt_of_lt_of_le l10 o15.1
 have o15' := (o0.trans o10).trans o15
 refine .inl ⟨rfl, _, _, _, ld1_at c15 rfl, fun a => no o15' fun e => by have := e.2.2.2.2.2.2.1; omega, fun a10 => ⟨_, _, _, ld1_at c15 rfl, (deadRight kk.dRight kk.dFits kk.qRight kk.qLess (k.shows.old o15') k.dead (by omega)).mono ?_⟩⟩
 rintro _ g23 ⟨⟨rfl, k11⟩ | ⟨rfl, k11⟩, o23⟩
 rotate_left
 ·exact .inr ⟨rfl, no (o15'.trans o23) fun e => k11 e.2.2.2.2.2.2.2.1⟩
 have c23 := (o23.2 _ l15).trans c15
 have o23' := o15'.trans o23
 have yes : ((r.snap = true ∧ 1 ≤ r.stamp ∧ r.stamp ≤ 281474976710655) ∨ (r.snap = false ∧ r.stamp = 0 ∧ r.own = r.id)) → BoolIs (.bool true) (EntR r) ∧ Old h g23 := fun q => ⟨.inl ⟨rfl, by omega, by omega, by omega, by omega, k8, k9, by omega, k11, q⟩, o23'⟩
 have no2 : ¬ ((r.snap = true ∧ 1 ≤ r.stamp ∧ r.stamp ≤ 281474976710655) ∨ (r.snap = false ∧ r.stamp = 0 ∧ r.own = r.id)) → BoolIs (.bool false) (EntR r) ∧ Old h g23 := fun q => no o23' fun e => q e.2.2.2.2.2.2.2.2
 refine .inl ⟨rfl, ?_⟩
 cases hs : r.snap with
 | true => exact .inl ⟨ld1_at c23 (by simp [setC, hs]), _, ld1_at c23 rfl, fun a => ⟨_, ld1_at c23 rfl, fun b => yes (.inl ⟨hs, a, b⟩), fun b => no2 (by rw [hs]; simp; omega)⟩, fun a => no2 (by rw [hs]; simp; omega)⟩
 | false => exact .inr ⟨ld1_at c23 (by simp [setC, hs]), _, ld1_at c23 rfl, fun a => ⟨_, ld1_at c23 rfl, _, ld1_at c23 rfl, fun b => yes (.inr ⟨hs, a, b⟩), fun b => no2 (by rw [hs]; simp; omega)⟩, fun a => no2 (by rw [hs]; simp; omega)⟩
/-! ## What a record is called -/
abbrev Cal := Int × ByteArray
def calK (r : SetR) : Cal := (if r.snap = true then r.own else 0, r.name)
theorem callOfSpec (hk : K 45 = none) {b off : Nat} (T : Sets h (some ⟨b, off, none⟩) n rs) {i : Nat} (hi : i < n) (hi' : i < rs.length) :
 Wf Try.prog K 45 [.pointer (some ⟨b, off + i * 11, none⟩)] h fun v h' => v = .agg #[.int .u64 (calK rs[i]).1, .string (calK rs[i]).2] ∧ Old h h' := by
 refine vc_family_callOf hk _ h _ fun g0 e0 => ?_
 have o0 := old_of_alloc e0
 have n0 := next_of_alloc e0
 obtain ⟨hi2, hl2, h1, ok2⟩ := (T.old o0).at' hi
 have c0 := get_of_alloc e0
 generalize rs[i] = r at h1 ⊢
 refine derefP_at ?_
 cases hs : r.snap with
 | true =>
   refine .inl ⟨h1 2 _ (by simp [setC, hs]), derefP_at ⟨_, h1 3 _ rfl, derefP_at ⟨_, h1 1 _ rfl, rfl, _, stN_all c0 rfl, _, _, ldN_all (get_set_self _ _ _) rfl, ?_, ?_⟩⟩⟩
   ·simp [calK, hs]
   ·have nr := near_set h.next g0 (.cells [.int .u64 r.own, .string r.name] 73 false)
    exact ⟨by rw [nr.1]; exact o0.1, fun c hc => by rw [nr.2 c (by omega), o0.2 c hc]⟩
 | false =>
   refine .inr ⟨h1 2 _ (by simp [setC, hs]), derefP_at ⟨_, h1 1 _ rfl, rfl, _, stN_all c0 rfl, _, _, ldN_all (get_set_self _ _ _) rfl, ?_, ?_⟩⟩
   ·simp [calK, hs]
   ·have nr := near_set h.next g0 (.cells [.int .u64 0, .string r.name] 73 false)
    exact ⟨by rw [nr.1]; exact o0.1, fun c hc => by rw [nr.2 c (by omega), o0.2 c hc]⟩
/-! ## Elders -/
def flrOf (rs : List SetR) (s : SetR) : Int := if s.prev = 0 then 0 else match plcN rs s.prev with
 | none => 0
 | some j => match rs[j]? with
   | none => 0
   | some x => x.stamp
theorem flr_of {id : Int} {i : Nat} {r : SetR} (h1 : plcN rs id = some i) (h2 : rs[i]? = some r) : flr rs id = flrOf rs r := by
 unfold flr flrOf
 simp only [h1, h2]
 rfl
def ElderR (rs : List SetR) (s : SetR) : Prop := (s.prev ≠ 0 → ∃ j x, plcN rs s.prev = some j ∧ rs[j]? = some x ∧ x.snap = true ∧ (s.snap = true → x.stamp < s.stamp)) ∧ ∀ q ∈ s.dead, q.2.1 ≤ flrOf rs s
end
end Go.Am
