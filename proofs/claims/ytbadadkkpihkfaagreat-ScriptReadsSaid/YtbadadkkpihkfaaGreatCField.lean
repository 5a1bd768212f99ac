/-
  NUMBERS AS BYTES, and back.
-/
import Derived.Test.YtbadadkkpihkfaaGreatCScrA
import Derived.Test.YtbadadkkpihkfaaGreatVScr
set_option linter.unusedVariables false
set_option linter.unusedSimpArgs false
set_option maxRecDepth 100000
namespace Go.Am
open Go.Proofs
theorem sum_le8 : ∀ {ws : List Nat}, (∀ w ∈ ws, w ≤ 8) → ws.sum ≤ 8 * ws.length
  | [], _ => Nat.le_refl _
  | w :: ws, h => by
    have h1 := h w (by simp)
    have h2 := sum_le8 (ws := ws) fun x hx => h x (by simp [hx])
    simp only [List.sum_cons, List.length_cons]
    omega
theorem eU64 : ElemOk Tryz.prog 63 46 1 8 := ElemOk_of (by kernel_rfl)
section
variable {K : Xs} {h : AH}
theorem fieldRoom (hk : K 29 = none) {p : Option Addr} {n c : Nat} {ws : List Nat} (hs : Shows h p n 1 (natC .i64 ws)) (hw : ∀ w ∈ ws, 1 ≤ w ∧ w ≤ 8) (hl : ws.length ≤ 1000) :
    Wf Tryz.prog K 29 [.slice p n c] h fun v h' => v = .tuple #[.int .i64 (ws.sum : Nat), .bool true] ∧ h = h' := by
  have hn : n = ws.length := by have := hs.1; rw [natC_len] at this; omega
  subst hn
  refine vc_field_room hk _ _ _ h _ ⟨fun i4 i5 k g => ∃ j : Nat, i5 = j ∧ i4 = ((ws.take j).sum : Nat) ∧ j ≤ ws.length ∧ ws.length - j = k ∧ h = g, ⟨_, 0, rfl, rfl, Nat.zero_le _, rfl, rfl⟩, ?_⟩
  rintro k g i4 i5 ⟨j, rfl, rfl, hj, rfl, rfl⟩
  refine ⟨fun q => ?_, fun q => ⟨by rw [List.take_of_length_le (by omega)], rfl⟩⟩
  have hj' : j < ws.length := by omega
  obtain ⟨b, off, rfl, hld⟩ := hs.get hj'
  rw [natC_get hj'] at hld
  have hw1 := hw _ (List.getElem_mem hj')
  have s1 := sum_take hj'
  have s2 := sum_take_le ws (j + 1)
  have s3 := sum_le8 fun w hx => (hw w hx).2
  refine derefP_at ⟨by omega, q, _, by rw [Int.toNat_natCast, Nat.mul_one]; exact hld, fun z => absurd z (by omega), fun _ => ⟨fun z => absurd z (by omega), fun _ i9 e9 i10 e10 => ?_⟩⟩
  have e10 := i64w e10 (by omega) (by omega)
  have e9 := i64w e9 (by omega) (by omega)
  exact ⟨_, by omega, j + 1, by rw [e10]; rfl, by rw [e9, s1]; rfl, hj', rfl, rfl⟩
theorem wrapN_byte (n : Nat) : IntKind.wrap .u8 (n : Int) = ((n % 256 : Nat) : Int) := wrapN_u8 n
theorem fieldPut (hk : K 15 = none) (kr : K 29 = none) {p q : Option Addr} {n m c c' : Nat} {ws ns : List Nat} (hs : Shows h p n 1 (natC .i64 ws)) (ht : Shows h q m 1 (natC .u64 ns)) (hw : ∀ w ∈ ws, 1 ≤ w ∧ w ≤ 8) (hl : ws.length ≤ 1000) (hlen : ws.length = ns.length)
    (hfit : ∀ (i w x : Nat), ws[i]? = some w → ns[i]? = some x → x < 256 ^ w) :
    Wf Tryz.prog K 15 [.slice p n c, .slice q m c'] h fun v h' => (∃ b, v = .tuple #[.slice (some ⟨b, 0, none⟩) ws.sum ws.sum, .int .i64 0] ∧ h.next ≤ b ∧ Shows h' (some ⟨b, 0, none⟩) ws.sum 1 (natC .u8 (enc ws ns))) ∧ Old h h' := by
  have hn : n = ws.length := by have := hs.1; rw [natC_len] at this; omega
  have hm : m = ns.length := by have := ht.1; rw [natC_len] at this; omega
  subst hn
  subst hm
  have s3 := sum_le8 fun w hx => (hw w hx).2
  refine vc_field_Put hk _ _ _ _ _ _ h _ ((fieldRoom kr hs hw hl).mono ?_)
  rintro _ _ ⟨rfl, rfl⟩
  refine ⟨_, .inl ⟨rfl, fun _ => ?_, fun z => absurd (show ((ns.length : Nat) : Int) = ((ws.length : Nat) : Int) by omega) z⟩⟩
  refine ⟨fun i k g => ∃ j : Nat, i = j ∧ j ≤ ns.length ∧ ns.length - j = k ∧ h = g, ⟨_, 0, rfl, Nat.zero_le _, rfl, rfl⟩, ?_⟩
  rintro k g i ⟨j, rfl, hj, rfl, rfl⟩
  refine ⟨fun z => ?_, fun z => ⟨⟨by omega, by omega, by omega, by omega⟩, fun g17 e17 => ?_⟩⟩
  · have hj' : j < ns.length := by omega
    have hjw : j < ws.length := by omega
    obtain ⟨b, off, rfl, hld⟩ := hs.get hjw
    obtain ⟨b2, off2, rfl, hld2⟩ := ht.get hj'
    rw [natC_get hjw] at hld
    rw [natC_get hj'] at hld2
    have hw1 := hw _ (List.getElem_mem hjw)
    have hf := hfit j _ _ (List.getElem?_eq_getElem hjw) (List.getElem?_eq_getElem hj')
    refine derefP_at ⟨by omega, z, _, by rw [Int.toNat_natCast, Nat.mul_one]; exact hld2, derefP_at ⟨by omega, by omega, _, by rw [Int.toNat_natCast, Nat.mul_one]; exact hld, fun i14 e14 => ?_⟩⟩
    have e14 := i64w e14 (by omega) (by omega)
    refine ⟨0, ?_, fun _ i16 e16 => ?_, fun y => absurd rfl y⟩
    · rw [e14, show (8 : Int) * ((ws[j] : Nat) : Int) = ((8 * ws[j] : Nat) : Int) by omega, shr_u64 hw1.2, Nat.div_eq_of_lt hf]
      rfl
    · have e16 := i64w e16 (by omega) (by omega)
      exact ⟨_, by omega, j + 1, by rw [e16]; rfl, hj', rfl, rfl⟩
  have o17 := old_of_alloc e17
  have hg0 : GrowC h.next g17 5 1 h.next 0 ws.sum [] := GrowC.make e17 (by rw [Int.toNat_natCast]; simp) (by simp only [openCap]; omega)
  refine ⟨fun p n c i k g => ∃ j : Nat, i = j ∧ j ≤ ns.length ∧ ns.length - j = k ∧ p = some ⟨h.next, 0, none⟩ ∧ c = ws.sum ∧ Old h g ∧ GrowC h.next g 5 1 h.next n ws.sum (natC .u8 (enc (ws.take j) (ns.take j))), ⟨_, 0, rfl, Nat.zero_le _, rfl, rfl, Int.toNat_natCast _, o17, hg0⟩, ?_⟩
  rintro k20 g20 p22 n23 c24 i25 ⟨j, rfl, hj, rfl, rfl, rfl, o20, G20⟩
  refine ⟨fun z => ?_, fun z => ?_⟩
  · have hj' : j < ns.length := by omega
    have hjw : j < ws.length := by omega
    obtain ⟨b, off, rfl, hld⟩ := (hs.old o20).get hjw
    obtain ⟨b2, off2, rfl, hld2⟩ := (ht.old o20).get hj'
    rw [natC_get hjw] at hld
    rw [natC_get hj'] at hld2
    have hw1 := hw _ (List.getElem_mem hjw)
    have s1 := sum_take hjw
    have s2 := sum_take_le ws (j + 1)
    have tl : (ws.take j).length = (ns.take j).length := by simp; omega
    have e1 : enc (ws.take (j + 1)) (ns.take (j + 1)) = enc (ws.take j) (ns.take j) ++ byB ws[j] ns[j] := by
      rw [List.take_succ_eq_append_getElem hjw, List.take_succ_eq_append_getElem hj', enc_app _ _ _ _ tl]
    refine derefP_at ⟨by omega, z, _, by rw [Int.toNat_natCast, Nat.mul_one]; exact hld2, derefP_at ⟨by omega, by omega, _, by rw [Int.toNat_natCast, Nat.mul_one]; exact hld, ?_⟩⟩
    generalize hwj : ws[j] = w at hw1 s1 e1
    generalize hnj : ns[j] = x at e1
    refine ⟨fun p n c i k g => ∃ t : Nat, i = t ∧ t ≤ w ∧ w - t = k ∧ p = some ⟨h.next, 0, none⟩ ∧ c = ws.sum ∧ Old h g ∧ GrowC h.next g 5 1 h.next n ws.sum (natC .u8 (enc (ws.take j) (ns.take j) ++ byB t x)), ⟨_, 0, rfl, Nat.zero_le _, rfl, rfl, rfl, o20, by simpa [byB] using G20⟩, ?_⟩
    rintro k34 g34 p36 n37 c38 i39 ⟨t, rfl, ht', rfl, rfl, rfl, o34, G34⟩
    have hn37 : n37 = (ws.take j).sum + t := by
      have := G34.1
      rw [natC_len, List.length_append, byB_len, enc_len _ _ tl] at this
      omega
    refine ⟨fun y => ?_, fun y => ?_⟩
    · intro i40 e40
      have e40 := i64w e40 (by omega) (by omega)
      refine ⟨((x / 256 ^ t : Nat) : Int), ?_, fun i42 e42 g43 e43 => ?_⟩
      · rw [e40, show (8 : Int) * (t : Int) = ((8 * t : Nat) : Int) by omega, shr_u64 (by omega)]
      rw [wrapN_u8] at e42
      subst e42
      obtain ⟨g47, k47, G47, n47, f47⟩ := G34.push eU8 (ns := [.int .u8 ((x / 256 ^ t % 256 : Nat) : Int)]) e43 rfl (by decide) (by omega)
      refine ⟨_, _, _, g47, k47, fun i48 e48 => ?_⟩
      have e48 := i64w e48 (by omega) (by omega)
      refine ⟨_, by omega, t + 1, by rw [e48]; rfl, by omega, rfl, rfl, rfl, ⟨by rw [n47]; have := o34.1; omega, fun b hb => ?_⟩, ?_⟩
      · rw [f47 b (by have := o34.1; omega) (by omega), o34.2 b hb]
      · rw [byB_succ, ← List.append_assoc, natC_app]
        exact G47
    · intro i49 e49
      have e49 := i64w e49 (by omega) (by omega)
      have htw : t = w := by omega
      subst htw
      exact ⟨_, by omega, j + 1, by rw [e49]; rfl, hj', rfl, rfl, rfl, o34, by rw [e1]; exact G34⟩
  · have hjn : j = ns.length := by omega
    have e1 : ws.take j = ws := List.take_of_length_le (by omega)
    have e2 : ns.take j = ns := List.take_of_length_le (by omega)
    rw [e1, e2] at G20
    have hn23 : n23 = ws.sum := by have := G20.1; rw [natC_len, enc_len _ _ hlen] at this; omega
    subst hn23
    exact ⟨⟨_, rfl, Nat.le_refl _, G20.shows⟩, o20⟩
theorem fieldGet (hk : K 24 = none) (kr : K 29 = none) {p : Option Addr} {n m c c' b off : Nat} {ws bs : List Nat} (hs : Shows h p n 1 (natC .i64 ws)) (ht : Shows h (some ⟨b, off, none⟩) m 1 (natC .u8 bs)) (hb : b < h.next) (hc : CutOk Tryz.prog h 5 b m c') (hw : ∀ w ∈ ws, 1 ≤ w ∧ w ≤ 8) (hl : ws.length ≤ 1000)
    (hbs : ∀ x ∈ bs, x < 256) (hlen : bs.length = ws.sum) :
    Wf Tryz.prog K 24 [.slice p n c, .slice (some ⟨b, off, none⟩) m c'] h fun v h' => (∃ b', v = .tuple #[.slice (some ⟨b', 0, none⟩) ws.length ws.length, .int .i64 0] ∧ h.next ≤ b' ∧ Shows h' (some ⟨b', 0, none⟩) ws.length 1 (natC .u64 (dec ws bs))) ∧ Old h h' := by
  have hn : n = ws.length := by have := hs.1; rw [natC_len] at this; omega
  have hm : m = bs.length := by have := ht.1; rw [natC_len] at this; omega
  subst hn
  have s3 := sum_le8 fun w hx => (hw w hx).2
  refine vc_field_Get hk _ _ _ _ _ _ h _ ((fieldRoom kr hs hw hl).mono ?_)
  rintro _ _ ⟨rfl, rfl⟩
  refine ⟨_, .inl ⟨rfl, fun _ => ⟨⟨by omega, by omega, by omega, by omega⟩, fun g3 e3 => ?_⟩, fun z => absurd (show ((m : Nat) : Int) = ((ws.sum : Nat) : Int) by omega) z⟩⟩
  have o3 := old_of_alloc e3
  have hg0 : GrowC h.next g3 46 1 h.next 0 ws.length [] := GrowC.make e3 (by rw [Int.toNat_natCast]; simp) (by simp only [openCap]; omega)
  refine ⟨fun p8 n9 c10 p11 n12 c13 i14 k g => ∃ j off' : Nat, i14 = j ∧ j ≤ ws.length ∧ ws.length - j = k ∧ p8 = some ⟨b, off', none⟩ ∧ Shows h (some ⟨b, off', none⟩) n9 1 (natC .u8 (bs.drop (ws.take j).sum)) ∧ CutOk Tryz.prog h 5 b n9 c10 ∧ p11 = some ⟨h.next, 0, none⟩ ∧ c13 = ws.length ∧ Old h g ∧ GrowC h.next g 46 1 h.next n12 ws.length (natC .u64 (dec (ws.take j) bs)),
    ⟨_, 0, off, rfl, Nat.zero_le _, rfl, rfl, by simpa using ht, hc, rfl, Int.toNat_natCast _, o3, hg0⟩, ?_⟩
  rintro k5 g6 p8 n9 c10 p11 n12 c13 i14 ⟨j, off', rfl, hj, rfl, rfl, S9, C9, rfl, rfl, o6, G6⟩
  have hn9 : n9 = bs.length - (ws.take j).sum := by have := S9.1; rw [natC_len, List.length_drop] at this; omega
  refine ⟨fun z => ?_, fun z => ?_⟩
  · have hj' : j < ws.length := by omega
    obtain ⟨b1, off1, rfl, hld⟩ := (hs.old o6).get hj'
    rw [natC_get hj'] at hld
    have hw1 := hw _ (List.getElem_mem hj')
    have s1 := sum_take hj'
    have s2 := sum_take_le ws (j + 1)
    have e1 : dec (ws.take (j + 1)) bs = dec (ws.take j) bs ++ [deB ((bs.drop (ws.take j).sum).take ws[j])] := by
      rw [List.take_succ_eq_append_getElem hj', dec_app]
    refine derefP_at ⟨by omega, z, _, by rw [Int.toNat_natCast, Nat.mul_one]; exact hld, ?_⟩
    generalize ws[j] = w at hw1 s1 e1
    have hbd : ∀ x ∈ bs.drop (ws.take j).sum, x < 256 := fun x hx => hbs x (List.mem_of_mem_drop hx)
    have hbl : (bs.drop (ws.take j).sum).length = n9 := by rw [List.length_drop]; omega
    have e2 : bs.drop (ws.take (j + 1)).sum = (bs.drop (ws.take j).sum).drop w := by rw [List.drop_drop, s1]
    generalize bs.drop (ws.take j).sum = cs at S9 e1 hbd hbl e2
    refine ⟨fun i22 i23 k g => ∃ t : Nat, i23 = t ∧ t ≤ w ∧ w - t = k ∧ i22 = (deB (cs.take t) : Nat) ∧ g6 = g, ⟨_, 0, rfl, Nat.zero_le _, rfl, rfl, rfl⟩, ?_⟩
    rintro k19 g20 i22 i23 ⟨t, rfl, ht', rfl, rfl, rfl⟩
    refine ⟨fun y => ?_, fun y => ?_⟩
    · have htc : t < cs.length := by omega
      obtain ⟨b4, off4, hb4, hld4⟩ := (S9.old o6).get (i := t) (by omega)
      simp only [Option.some.injEq, Addr.mk.injEq, and_true] at hb4
      obtain ⟨rfl, rfl⟩ := hb4
      rw [natC_get htc] at hld4
      have hx := hbd _ (List.getElem_mem htc)
      have etk : cs.take (t + 1) = cs.take t ++ [cs[t]] := List.take_succ_eq_append_getElem htc
      have hlt := deB_lt (cs.take (t + 1)) fun x hx => hbd x (List.mem_of_mem_take hx)
      have hlt0 := deB_lt (cs.take t) fun x hx => hbd x (List.mem_of_mem_take hx)
      have hp := pow256_le (show t + 1 ≤ 8 by omega)
      rw [etk, deB_app] at hlt
      simp only [List.length_append, List.length_take, List.length_cons, List.length_nil] at hlt hlt0
      rw [show min t cs.length = t by omega] at hlt hlt0
      rw [show t + (0 + 1) = t + 1 by omega] at hlt
      have edb : deB (cs.take (t + 1)) = deB (cs.take t) + cs[t] * 256 ^ t := by
        rw [etk, deB_app, List.length_take, show min t cs.length = t by omega]
      generalize deB (cs.take t) = a at hlt hlt0 edb
      generalize cs[t] = x at hld4 hx hlt edb
      refine derefP_at ⟨by omega, by omega, _, by rw [Int.toNat_natCast, Nat.mul_one]; exact hld4, fun i27 e27 i28 e28 => ?_⟩
      have e27 := u64w e27 (by omega) (by omega)
      have e28 := i64w e28 (by omega) (by omega)
      subst e27
      rw [e28, show (8 : Int) * (t : Int) = ((8 * t : Nat) : Int) by omega]
      refine ⟨_, shl_u64 (by omega) (by omega), _, or_u64 (by omega) hlt0 (by omega), fun i31 e31 => ?_⟩
      have e31 := i64w e31 (by omega) (by omega)
      exact ⟨_, by omega, t + 1, by rw [e31]; rfl, by omega, rfl, by rw [edb], rfl⟩
    · have htw : t = w := by omega
      subst htw
      intro g32 e32
      have hn12 : n12 = j := by have := G6.1; rw [natC_len, dec_len, List.length_take] at this; omega
      obtain ⟨g36, k36, G36, n36, f36⟩ := G6.push eU64 (ns := [.int .u64 ((deB (cs.take t) : Nat) : Int)]) e32 rfl (by decide) (by omega)
      have o36 : Old h g36 := ⟨by rw [n36]; have := o6.1; omega, fun x hx => by rw [f36 x (by have := o6.1; omega) (by omega), o6.2 x hx]⟩
      obtain ⟨off2, c2, k2, hoff, C2⟩ := cut_lo eU8 (by simp) (h := g36) (off := off') (lo := t) (C9.old o36 hb) (by omega)
      refine ⟨_, _, _, g36, k36, _, _, _, k2, fun i40 e40 => ?_⟩
      have e40 := i64w e40 (by omega) (by omega)
      obtain ⟨off3, c3, k3, hoff3, C3⟩ := cut_lo eU8 (by simp) (h := h) (off := off') (lo := t) C9 (by omega)
      refine ⟨_, by omega, j + 1, off2, by rw [e40]; rfl, hj', rfl, rfl, ?_, ?_, rfl, rfl, o36, ?_⟩
      · rw [e2]
        have := S9.cut (lo := t) (off2 := off2) (by omega) hoff
        rw [Nat.mul_one] at this
        unfold natC at this ⊢
        rw [← List.map_drop] at this
        exact this
      · rcases C2 with C2 | ⟨q1, cs', e', ro', q2, q3⟩
        · exact .inl C2
        · exact .inr ⟨q1, cs', e', ro', by rw [← o36.2 b hb]; exact q2, q3⟩
      · rw [e1, natC_app]
        exact G36
  · have hjn : j = ws.length := by omega
    have e1 : ws.take j = ws := List.take_of_length_le (by omega)
    rw [e1] at G6
    have hn12 : n12 = ws.length := by have := G6.1; rw [natC_len, dec_len] at this; omega
    subst hn12
    exact ⟨⟨_, rfl, Nat.le_refl _, G6.shows⟩, o6⟩
theorem fieldGetBad (hk : K 24 = none) (kr : K 29 = none) {p q : Option Addr} {n m c c' : Nat} {ws : List Nat} (hs : Shows h p n 1 (natC .i64 ws)) (hw : ∀ w ∈ ws, 1 ≤ w ∧ w ≤ 8) (hl : ws.length ≤ 1000) (hne : m ≠ ws.sum) :
    Wf Tryz.prog K 24 [.slice p n c, .slice q m c'] h fun v h' => v = .tuple #[.slice none 0 0, .int .i64 21] ∧ h = h' := by
  have hn : n = ws.length := by have := hs.1; rw [natC_len] at this; omega
  subst hn
  refine vc_field_Get hk _ _ _ _ _ _ h _ ((fieldRoom kr hs hw hl).mono ?_)
  rintro _ _ ⟨rfl, rfl⟩
  exact ⟨_, .inl ⟨rfl, fun z => absurd z (by omega), fun _ => ⟨rfl, rfl⟩⟩⟩
end
end Go.Am
