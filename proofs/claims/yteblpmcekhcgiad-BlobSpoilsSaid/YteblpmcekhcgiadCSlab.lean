/-
  THE MAP OF SECTORS in this program: what its functions do to the states.
-/
import Derived.Test.YteblpmcekhcgiadAmH
import Derived.Test.YteblpmcekhcgiadVPile
set_option linter.unusedVariables false
set_option linter.unusedSimpArgs false
namespace Go.Am
open Go.Proofs
section
variable {K : Xs} {h : AH} {b : Nat} {M : List Nat}
abbrev MapO (h : AH) (b : Nat) (M : List Nat) : Prop := MapAt 81 h b M
theorem mapIs (hk : K 32 = none) (m : MapO h b M) (i : Int) (s : Nat) :
    Wf Try.prog K 32 [.pointer (some ⟨b, 0, none⟩), .int .i64 i, .int .u8 s] h fun v h' => v = .bool (decide (0 ≤ i ∧ i < 1024 ∧ M[i.toNat]? = some s)) ∧ h = h' := by
  refine vc_slab_Map_is hk _ _ _ h _ ⟨fun q1 => ⟨fun q2 => derefP_at ⟨q1, q2, ?_⟩, fun q2 => ⟨by rw [decide_eq_false]; omega, rfl⟩⟩, fun q1 => ⟨by rw [decide_eq_false]; omega, rfl⟩⟩
  have hi : i.toNat < M.length := by rw [m.1]; omega
  refine ⟨(M[i.toNat] : Nat), ?_, fun q3 => ⟨?_, rfl⟩, fun q3 => ⟨?_, rfl⟩⟩
  · rw [Nat.mul_one, Nat.zero_add]
    exact ld1_at m.2.2 (by rw [mapC_lo hi, List.getElem?_eq_getElem hi]; rfl)
  · rw [decide_eq_true]
    exact ⟨q1, q2, by rw [List.getElem?_eq_getElem hi]; congr 1; omega⟩
  · rw [decide_eq_false]
    rintro ⟨_, _, q4⟩
    rw [List.getElem?_eq_getElem hi] at q4
    simp only [Option.some.injEq] at q4
    exact q3 (by rw [q4])
theorem mapSet (hk : K 31 = none) (m : MapO h b M) (i : Nat) (hi : i < 1024) (v : Nat) :
    Wf Try.prog K 31 [.pointer (some ⟨b, 0, none⟩), .int .i64 i, .int .u8 v] h fun r h' => MapO h' b (M.set i v) ∧ Near b h h' := by
  obtain ⟨hl, hb, hg⟩ := m
  have hiM : i < M.length := by omega
  have hM : M[i]? = some M[i] := List.getElem?_eq_getElem hiM
  have hk16 : i / 64 < 16 := by omega
  have hdiv : Int.tdiv (i : Int) 64 = ((i / 64 : Nat) : Int) := tdivN i 64
  have fin : ∀ (g : AH) (rm : List Nat), Near b h g → g.get b = some (.cells (mapC (M.set i v) rm) 81 false) → rm = cnts (M.set i v) → MapO g b (M.set i v) ∧ Near b h g := by
    intro g rm n hg2 hrm
    exact ⟨⟨by rw [List.length_set]; exact hl, by rw [n.1]; exact hb, by rw [hg2, hrm]⟩, n⟩
  have behind : ∀ (g : AH) (rm : List Nat) (c : Nat) (Q : Value → AH → Prop), rm.length = 16 → rm[i / 64]? = some c → c ≤ 100 → Near b h g → g.get b = some (.cells (mapC M rm) 81 false) →
      (∀ g', Near b h g' → g'.get b = some (.cells (mapC (M.set i v) (if v = 1 then rm.set (i / 64) (c + 1) else rm)) 81 false) → Q (.tuple #[]) g') →
      ∃ h13 : AH, st1 g b (0 + Int.toNat (i : Int) * 1) (.int .u8 (v : Int)) = some h13 ∧
        (((v : Int) = 1 → (64 ≠ (0 : Int)) ∧ (∀ i14 : Int, i14 = IntKind.wrap .i64 (Int.tdiv (i : Int) 64) → derefP (some ⟨b, 0, none⟩) fun b15 o16 => (((0 : Int) ≤ i14) ∧ ((i14 : Int) < 16) ∧
          (∃ i17 : Int, ld1 h13 b15 ((o16 + 1024) + Int.toNat i14 * 1) = some (.int .i64 i17) ∧
          (∀ i18 : Int, i18 = IntKind.wrap .i64 (i17 + 1) → derefP (some ⟨b, 0, none⟩) fun b19 o20 => (((0 : Int) ≤ i14) ∧ ((i14 : Int) < 16) ∧
          (∃ h21 : AH, st1 h13 b19 ((o20 + 1024) + Int.toNat i14 * 1) (.int .i64 i18) = some h21 ∧
          (Q (.tuple #[]) h21)))))))) ∧
        (¬ (v : Int) = 1 → Q (.tuple #[]) h13)) := by
    intro g rm c Q hrl hrc hc n hgb hq
    have hlen : i < (mapC M rm).length := by rw [mapC_len]; omega
    refine ⟨g.set b (.cells (mapC (M.set i v) rm) 81 false), ?_, ?_⟩
    · rw [Int.toNat_natCast, Nat.mul_one, Nat.zero_add, st1_of hgb hlen, mapC_setLo hiM]
    · have hg2 : (g.set b (.cells (mapC (M.set i v) rm) 81 false)).get b = some (.cells (mapC (M.set i v) rm) 81 false) := by rw [AH.get_set, if_pos rfl]
      refine ⟨fun q1 => ⟨by omega, fun i14 e14 => ?_⟩, fun q1 => ?_⟩
      · rw [hdiv] at e14
        have e14 := i64w e14 (by omega) (by omega)
        subst e14
        refine derefP_at ⟨by omega, by omega, (c : Nat), ?_, fun i18 e18 => derefP_at ⟨by omega, by omega, ?_⟩⟩
        · rw [Int.toNat_natCast, Nat.mul_one, Nat.zero_add]
          exact ld1_at hg2 (by rw [mapC_hi (by rw [List.length_set]; exact hl), hrc]; rfl)
        · have e18 := i64w e18 (by omega) (by omega)
          subst e18
          refine ⟨_, by rw [Int.toNat_natCast, Nat.mul_one, Nat.zero_add, st1_of hg2 (by rw [mapC_len, List.length_set]; omega), show ((c : Int) + 1) = ((c + 1 : Nat) : Int) from rfl, mapC_setHi (by rw [List.length_set]; exact hl)], ?_⟩
          refine hq _ ((n.trans (near_set _ _ _)).trans (near_set _ _ _)) ?_
          rw [AH.get_set, if_pos rfl, if_pos (by omega)]
      · refine hq _ (n.trans (near_set _ _ _)) ?_
        rw [hg2, if_neg (by omega)]
  refine vc_slab_Map_set hk _ _ _ h _ (derefP_at ⟨by omega, by omega, (M[i] : Nat), ?_, fun q1 => ⟨by omega, fun i3 e3 => ?_⟩, fun q1 => derefP_at ⟨by omega, by omega, ?_⟩⟩)
  · rw [Int.toNat_natCast, Nat.mul_one, Nat.zero_add]
    exact ld1_at hg (by rw [mapC_lo hiM, hM]; rfl)
  · rw [hdiv] at e3
    have e3 := i64w e3 (by omega) (by omega)
    subst e3
    have hM1 : M[i]? = some 1 := by rw [hM]; congr 1; omega
    have hpos := cnt_pos (k := i / 64) hM1 (by omega)
    have hle := cnt_le M (i / 64)
    refine derefP_at ⟨by omega, by omega, (cnt M (i / 64) : Nat), ?_, fun i7 e7 => ?_⟩
    · rw [Int.toNat_natCast, Nat.mul_one, Nat.zero_add]
      exact ld1_at hg (by rw [mapC_hi hl, cnts_get hk16]; rfl)
    · have e7 := i64w e7 (by omega) (by omega)
      rw [show ((cnt M (i / 64) : Nat) : Int) - 1 = ((cnt M (i / 64) - 1 : Nat) : Int) by omega] at e7
      subst e7
      refine derefP_at ⟨by omega, by omega, _, by rw [Int.toNat_natCast, Nat.mul_one, Nat.zero_add, st1_of hg (by rw [mapC_len, cnts_len]; omega), mapC_setHi hl], derefP_at ⟨by omega, by omega, ?_⟩⟩
      refine behind _ ((cnts M).set (i / 64) (cnt M (i / 64) - 1)) (cnt M (i / 64) - 1) (fun _ h' => MapO h' b (M.set i v) ∧ Near b h h') (by rw [List.length_set, cnts_len]) (by rw [List.getElem?_set, if_pos rfl, if_pos (by rw [cnts_len]; omega)]) (by omega) (near_set _ _ _) (by rw [AH.get_set, if_pos rfl]) ?_
      intro g n hg2
      refine fin g _ n hg2 ?_
      rw [cnts_set hl hi, if_pos hM1]
      by_cases hv : v = 1
      · rw [if_pos hv, if_pos hv, List.set_set]
      · rw [if_neg hv, if_neg hv, Nat.add_zero]
  · have hM1 : M[i]? ≠ some 1 := by rw [hM]; intro q; exact q1 (by simp only [Option.some.injEq] at q; omega)
    have hle := cnt_le M (i / 64)
    refine behind h (cnts M) (cnt M (i / 64)) (fun _ h' => MapO h' b (M.set i v) ∧ Near b h h') (cnts_len M) (cnts_get hk16) (by omega) (Near.refl _ _) hg ?_
    intro g n hg2
    refine fin g _ n hg2 ?_
    rw [cnts_set hl hi, if_neg hM1]
    by_cases hv : v = 1
    · rw [if_pos hv, if_pos hv, Nat.sub_zero]
    · rw [if_neg hv, if_neg hv, Nat.sub_zero, Nat.add_zero]
      apply List.ext_getElem?
      intro j
      rw [List.getElem?_set]
      split
      · rename_i q; rw [if_pos (by rw [cnts_len]; omega), ← q, cnts_get hk16]
      · rfl
theorem mapCount (hk : K 21 = none) (m : MapO h b M) :
    Wf Try.prog K 21 [.pointer (some ⟨b, 0, none⟩)] h fun v h' => v = .int .i64 (M.count 1 : Nat) ∧ h = h' := by
  obtain ⟨hl, hb, hg⟩ := m
  refine vc_slab_Map_Count hk _ h _ (derefP_at ⟨natC .i64 (cnts M), ?_, fun s i k g => ∃ j : Nat, i = j ∧ j ≤ 16 ∧ 16 - j = k ∧ s = ((M.take (64 * j)).count 1 : Nat) ∧ h = g, ⟨16, 0, rfl, by omega, rfl, by simp, rfl⟩, ?_⟩)
  · rw [ldN_of hg (by rw [mapC_len, cnts_len]; omega)]
    unfold mapC
    rw [List.drop_append_of_le_length (by rw [natC_len]; omega), List.drop_eq_nil_of_le (by rw [natC_len]; omega), List.nil_append, List.take_of_length_le (by rw [natC_len, cnts_len]; omega)]
  · rintro k g s i ⟨j, rfl, hj, rfl, rfl, rfl⟩
    refine ⟨fun q => ⟨by omega, by omega, (cnt M j : Nat), ?_, fun i2 e2 i3 e3 => ?_⟩, fun q => ⟨?_, rfl⟩⟩
    · rw [Int.toNat_natCast, Nat.mul_one, natC_getQ, cnts_get (by omega)]; rfl
    · have e3 := i64w e3 (by omega) (by omega)
      have c1 := cnt_le M j
      have c2 : (M.take (64 * j)).count 1 ≤ 1024 := Nat.le_trans List.count_le_length (by simp; omega)
      have e2 := i64w e2 (by omega) (by omega)
      exact ⟨16 - (j + 1), by omega, j + 1, by omega, by omega, rfl, by rw [take_cnt]; omega, rfl⟩
    · have : j = 16 := by omega
      subst this
      rw [List.take_of_length_le (by omega)]
theorem mapAlloc (hk : K 22 = none) (h1 : K 32 = none) (h2 : K 31 = none) (m : MapO h b M) :
    Wf Try.prog K 22 [.pointer (some ⟨b, 0, none⟩)] h fun v h' =>
      (∃ i : Nat, i < 1024 ∧ M[i]? = some 1 ∧ v = .tuple #[.int .i64 i, .int .i64 0] ∧ MapO h' b (M.set i 2) ∧ Near b h h') ∨ (1 ∉ M ∧ v = .tuple #[.int .i64 0, .int .i64 71] ∧ h = h') := by
  have m0 := m
  obtain ⟨hl, hb, hg⟩ := m
  refine vc_slab_Map_Alloc hk _ h _ (derefP_at ⟨natC .i64 (cnts M), ?_, fun s i k g => ∃ j best : Nat, i = j ∧ j ≤ 16 ∧ 16 - j = k ∧ s = best ∧ best < 16 ∧ (∀ x, x < j → cnt M x ≤ cnt M best) ∧ h = g, ⟨16, 0, 0, rfl, by omega, rfl, rfl, by omega, fun x hx => by omega, rfl⟩, ?_⟩)
  · rw [ldN_of hg (by rw [mapC_len, cnts_len]; omega)]
    unfold mapC
    rw [List.drop_append_of_le_length (by rw [natC_len]; omega), List.drop_eq_nil_of_le (by rw [natC_len]; omega), List.nil_append, List.take_of_length_le (by rw [natC_len, cnts_len]; omega)]
  · rintro k g s i ⟨j, best, rfl, hj, rfl, rfl, hbest, hmax, rfl⟩
    refine ⟨fun q => ⟨by omega, by omega, (cnt M j : Nat), ?_, derefP_at ⟨by omega, by omega, (cnt M best : Nat), ?_, fun q2 i2 e2 => ?_, fun q2 i2 e2 => ?_⟩⟩, fun q i2 e2 => ?_⟩
    · rw [Int.toNat_natCast, Nat.mul_one, natC_getQ, cnts_get (by omega)]; rfl
    · rw [Int.toNat_natCast, Nat.mul_one, Nat.zero_add]
      exact ld1_at hg (by rw [mapC_hi hl, cnts_get hbest]; rfl)
    · have e2 := i64w e2 (by omega) (by omega)
      refine ⟨16 - (j + 1), by omega, j + 1, j, by omega, by omega, rfl, rfl, by omega, fun x hx => ?_, rfl⟩
      by_cases hxj : x = j
      · rw [hxj]; exact Nat.le_refl _
      · have := hmax x (by omega); omega
    · have e2 := i64w e2 (by omega) (by omega)
      refine ⟨16 - (j + 1), by omega, j + 1, best, by omega, by omega, rfl, rfl, hbest, fun x hx => ?_, rfl⟩
      by_cases hxj : x = j
      · rw [hxj]; omega
      · exact hmax x (by omega)
    · have hj16 : j = 16 := by omega
      subst hj16
      have e2 := i64w e2 (by omega) (by omega)
      subst e2
      refine ⟨fun i k g => ∃ x : Nat, i = x ∧ 64 * best ≤ x ∧ x ≤ 64 * best + 64 ∧ 64 * best + 64 - x = k ∧ (∀ y, 64 * best ≤ y → y < x → M[y]? ≠ some 1) ∧ h = g, ⟨64, 64 * best, by omega, Nat.le_refl _, by omega, by omega, fun y a c => by omega, rfl⟩, ?_⟩
      rintro k g i ⟨x, rfl, hx1, hx2, rfl, hno, rfl⟩ i3 e3 i4 e4
      have e3 := i64w e3 (by omega) (by omega)
      subst e3
      have e4 := i64w e4 (by omega) (by omega)
      subst e4
      refine ⟨fun q3 => (mapIs h1 m0 x 1).mono ?_, fun q3 => .inr ⟨?_, rfl, rfl⟩⟩
      · rintro _ g' ⟨rfl, rfl⟩
        by_cases q4 : M[x]? = some 1
        · refine .inl ⟨by rw [decide_eq_true]; exact ⟨by omega, by omega, by rw [Int.toNat_natCast]; exact q4⟩, (mapSet h2 m0 x (by omega) 2).mono ?_⟩
          rintro _ g2 ⟨hm2, hn2⟩
          exact .inl ⟨x, by omega, q4, rfl, hm2, hn2⟩
        · refine .inr ⟨by rw [decide_eq_false]; rintro ⟨_, _, q5⟩; rw [Int.toNat_natCast] at q5; exact q4 q5, fun i5 e5 => ?_⟩
          have e5 := i64w e5 (by omega) (by omega)
          refine ⟨64 * best + 64 - (x + 1), by omega, x + 1, by omega, by omega, by omega, rfl, fun y a c => ?_, rfl⟩
          by_cases hy : y = x
          · rw [hy]; exact q4
          · exact hno y a (by omega)
      · have hz : cnt M best = 0 := cnt_zero fun y a c => hno y a (by omega)
        exact none_free hl fun k hk => by have := hmax k hk; omega
theorem zMap : aBuild Try.prog 81 #[] = some (.agg (List.replicate 1024 (Value.int .u8 0) ++ List.replicate 16 (Value.int .i64 0)).toArray) := by kernel_rfl
theorem mapNew (hk : K 20 = none) (h2 : K 31 = none) (t : Nat) (ht : t ≤ 1024) (h : AH) :
    Wf Try.prog K 20 [.int .i64 t] h fun v h' => v = .pointer (some ⟨h.next, 0, none⟩) ∧ MapO h' h.next (newM t) ∧ h'.next = h.next + 1 ∧ (∀ c, c < h.next → h'.get c = h.get c) := by
  refine vc_slab_New hk _ h _ ⟨_, zMap, fun h1 e1 => ⟨fun i k g => ∃ j : Nat, i = j ∧ 4 ≤ j ∧ (j ≤ t ∨ j = 4) ∧ 1024 - j = k ∧ MapO g h.next (newM j) ∧ Near h.next h1 g, ⟨1020, 4, rfl, by omega, .inr rfl, rfl, ?_, Near.refl _ _⟩, ?_⟩⟩
  · subst e1
    refine ⟨newM_len _, Nat.lt_succ_self _, ?_⟩
    rw [get_alloc_next, newM_zero, cnts_zero, mapC_zero]
  · rintro k g i ⟨j, rfl, h4, hj, rfl, hm, hn⟩ i2 e2
    have hi2 : i2 = t := by rw [e2]; split <;> omega
    subst hi2
    refine ⟨fun q => (mapSet h2 hm j (by omega) 1).mono ?_, fun q => ⟨rfl, ?_, by rw [hn.1, e1]; rfl, fun c hc => by rw [hn.2 c (by omega), e1, get_alloc_ne (by omega)]⟩⟩
    · rintro _ g2 ⟨hm2, hn2⟩ i3 e3
      have e3 := i64w e3 (by omega) (by omega)
      exact ⟨1024 - (j + 1), by omega, j + 1, by omega, by omega, .inl (by omega), rfl, by rw [← newM_set h4 (by omega)]; exact hm2, hn.trans hn2⟩
    · rcases hj with hj | hj
      · have : j = t := by omega
        rw [← this]; exact hm
      · have : newM t = newM j := by
          unfold newM
          apply List.map_congr_left
          intro x _
          rw [if_neg (by omega), if_neg (by omega)]
        rw [this]; exact hm
end
end Go.Am
