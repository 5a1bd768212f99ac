/-
  WHICH LISTS ARE FAMILIES: records by themselves, their elders, their owners, their names.
-/
import Derived.Test.YtibgmhipepaeaaaCFam
set_option linter.unusedVariables false
set_option linter.unusedSimpArgs false
set_option maxRecDepth 100000
namespace Go.Am
open Go.Proofs
def ImpB (v : Value) (P : Prop) : Prop := (v = .bool true ∧ P) ∨ v = .bool false
def EntR (r : SetR) : Prop := (1 ≤ r.id ∧ r.id ≤ 281474976710655) ∧ (1 ≤ r.own ∧ r.own ≤ 281474976710655) ∧ r.prev ≤ 281474976710655 ∧ (1 ≤ r.blocks ∧ r.blocks ≤ 64) ∧ NameR r.name ∧ PtrRI r.root ∧ r.dn ≤ 4000 ∧ DeadR r.dead ∧ ((r.snap = true ∧ 1 ≤ r.stamp ∧ r.stamp ≤ 281474976710655) ∨ (r.snap = false ∧ r.stamp = 0 ∧ r.own = r.id))
structure KEnt (K : Xs) : Prop where
 eRight : K 44 = none
 nRight : K 74 = none
 qRight : K 75 = none
 dRight : K 76 = none
 dFits : K 103 = none
 qLess : K 104 = none
section
variable {K : Xs} {h : AH} {p : Option Addr} {n c : Nat} {rs : List SetR}
abbrev Cal := Int × ByteArray
def calK (r : SetR) : Cal := (if r.snap = true then r.own else 0, r.name)
theorem callOfSpec (hk : K 45 = none) {b off : Nat} (T : Sets h (some ⟨b, off, none⟩) n rs) {i : Nat} (hi : i < n) (hi' : i < rs.length) :
 Wf Try.prog K 45 [.pointer (some ⟨b, off + i * 11, none⟩)] h fun v h' => v = .agg #[.int .u64 (calK rs[i]).1, .string (calK rs[i]).2] ∧ Old h h' := by
 refine vc_family_callOf hk _ h _ fun g0 e0 => ?_
 have o0 := old_of_alloc e0
 have n0 := next_of_alloc e0
 obtain ⟨hi2, hl2, h1, ok2⟩ := (T.old o0).at' hi
 have c0 := get_of_alloc e0
 generalize rs[i] = r at h1 ⊢
 refine derefP_at ?_
 cases hs : r.snap with
 | true =>
   refine .inl ⟨h1 2 _ (by simp [setC, hs]), derefP_at ⟨_, h1 3 _ rfl, derefP_at ⟨_, h1 1 _ rfl, rfl, _, stN_all c0 rfl, _, _, ldN_all (get_set_self _ _ _) rfl, ?_, ?_⟩⟩⟩
   ·simp [calK, hs]
   ·have nr := near_set h.next g0 (.cells [.int .u64 r.own, .string r.name] 73 false)
    exact ⟨by rw [nr.1]; exact o0.1, fun c hc => by rw [nr.2 c (by omega), o0.2 c hc]⟩
 | false =>
   refine .inr ⟨h1 2 _ (by simp [setC, hs]), derefP_at ⟨_, h1 1 _ rfl, rfl, _, stN_all c0 rfl, _, _, ldN_all (get_set_self _ _ _) rfl, ?_, ?_⟩⟩
   ·simp [calK, hs]
   ·have nr := near_set h.next g0 (.cells [.int .u64 0, .string r.name] 73 false)
    exact ⟨by rw [nr.1]; exact o0.1, fun c hc => by rw [nr.2 c (by omega), o0.2 c hc]⟩
/-! ## Elders -/
def flrOf (rs : List SetR) (s : SetR) : Int := if s.prev = 0 then 0 else match plcN rs s.prev with
 | none => 0
 | some j => match rs[j]? with
   | none => 0
   | some x => x.stamp
theorem flr_of {id : Int} {i : Nat} {r : SetR} (h1 : plcN rs id = some i) (h2 : rs[i]? = some r) : flr rs id = flrOf rs r := by
 unfold flr flrOf
 simp only [h1, h2]
 rfl
def ElderR (rs : List SetR) (s : SetR) : Prop := (s.prev ≠ 0 → ∃ j x, plcN rs s.prev = some j ∧ rs[j]? = some x ∧ x.snap = true ∧ (s.snap = true → x.stamp < s.stamp)) ∧ ∀ q ∈ s.dead, q.2.1 ≤ flrOf rs s
end
end Go.Am
