/-
  WHAT HANGS ON A RECORD: gone through one after the other; owners; clones.
-/
import Derived.Test.YtibgmhipepaeaaaCFamR
set_option linter.unusedVariables false
set_option linter.unusedSimpArgs false
set_option maxRecDepth 100000
namespace Go.Am
open Go.Proofs
def hang (id : Int) : Nat → List SetR → List (Nat × SetR)
  | _, [] => []
  | i, r :: rs => if r.prev = id then (i, r) :: hang id (i + 1) rs else hang id (i + 1) rs
theorem hang_cons (id : Int) (i : Nat) (r : SetR) (rs : List SetR) : hang id i (r :: rs) = if r.prev = id then (i, r) :: hang id (i + 1) rs else hang id (i + 1) rs := rfl
theorem hang_app (id : Int) : ∀ (a b : List SetR) (i : Nat), hang id i (a ++ b) = hang id i a ++ hang id (i + a.length) b
  | [], b, i => by simp [hang]
  | r :: a, b, i => by
    have ih := hang_app id a b (i + 1)
    have e : i + 1 + a.length = i + (r :: a).length := by simp; omega
    rw [e] at ih
    rw [List.cons_append, hang_cons, hang_cons]
    split
    · rw [ih]; rfl
    · rw [ih]
theorem hang_snd (id : Int) : ∀ (rs : List SetR) (i : Nat), (hang id i rs).map (·.2) = rs.filter fun r => decide (r.prev = id)
  | [], i => rfl
  | r :: rs, i => by
    have ih := hang_snd id rs (i + 1)
    rw [hang_cons]
    by_cases e : r.prev = id
    · rw [if_pos e, List.map_cons, ih, List.filter_cons, if_pos (by simpa using e)]
    · rw [if_neg e, ih, List.filter_cons, if_neg (by simpa using e)]
theorem hang_mem {id : Int} : ∀ {rs : List SetR} {i : Nat} {q : Nat × SetR}, q ∈ hang id i rs → i ≤ q.1 ∧ rs[q.1 - i]? = some q.2 ∧ q.2.prev = id
  | r :: rs, i, q, h => by
    rw [hang_cons] at h
    have step : q ∈ hang id (i + 1) rs → i ≤ q.1 ∧ (r :: rs)[q.1 - i]? = some q.2 ∧ q.2.prev = id := fun h => by
      obtain ⟨h1, h2, h3⟩ := hang_mem h
      refine ⟨by omega, ?_, h3⟩
      rw [show q.1 - i = (q.1 - (i + 1)) + 1 by omega, List.getElem?_cons_succ]
      exact h2
    split at h
    · rename_i e
      rcases List.mem_cons.1 h with rfl | h
      · exact ⟨Nat.le_refl _, by simp, e⟩
      · exact step h
    · exact step h
theorem hang_take {id : Int} {rs : List SetR} {u : Nat} (hu : u < rs.length) : hang id 0 (rs.take (u + 1)) = hang id 0 (rs.take u) ++ (if rs[u].prev = id then [(u, rs[u])] else []) := by
  rw [List.take_succ_eq_append_getElem hu, hang_app, List.length_take, Nat.zero_add, Nat.min_eq_left (by omega)]
  rfl
theorem hang_at {id : Int} {rs : List SetR} {u : Nat} (hu : u < rs.length) (e : rs[u].prev = id) : (hang id 0 rs)[(hang id 0 (rs.take u)).length]? = some (u, rs[u]) := by
  have h1 : hang id 0 rs = hang id 0 (rs.take u) ++ hang id u (rs.drop u) := by
    conv => lhs; rw [← List.take_append_drop u rs]
    rw [hang_app, List.length_take, Nat.zero_add, Nat.min_eq_left (by omega)]
  rw [h1, List.getElem?_append_right (Nat.le_refl _), Nat.sub_self, List.drop_eq_getElem_cons hu]
  rw [hang_cons, if_pos e]
  rfl
def hItem (id : Int) (rs : List SetR) (k : Nat) : List Value := match (hang id 0 rs)[k]? with | some q => [.int .i64 (q.1 : Nat)] | none => [.int .i64 0]
theorem hItem_some {id : Int} {rs : List SetR} {k : Nat} {q : Nat × SetR} (h : (hang id 0 rs)[k]? = some q) : hItem id rs k = [.int .i64 (q.1 : Nat)] := by unfold hItem; rw [h]
section
variable {K : Xs} {h : AH} {p : Option Addr} {n c : Nat} {rs : List SetR}
theorem Wy.monoF {P : Program} {l : Nat} {args : List Value} {Q Q' : Value → AH → Prop} (w : Wy P K l args h Q) (f : ∀ v h', Q v h' → Q' v h') : Wy P K l args h Q' := by
  obtain ⟨n, v, h', e, q⟩ := w
  exact ⟨n, v, h', e, f v h' q⟩
/-- The numbers of a set, one after the other. -/
theorem hangGen (hk : K 80 = none) {ya pb0 pb1 : Nat} {id : Int} {JJ : Nat → AH → Prop} {DD : AH → Prop} {BB : AH → AH → Prop}
    (hs : ∀ i h1, JJ i h1 → (∃ t ro, h1.get pb0 = some (.cells [.slice p n c] t ro)) ∧ (∃ t ro, h1.get pb1 = some (.cells [.int .u64 id] t ro)) ∧ Sets h1 p n rs)
    (hr : ∀ (k : Nat) (h1 : AH) q, (hang id 0 rs)[k]? = some q → JJ k h1 → Wy Try.prog K ya [.int .i64 (q.1 : Nat)] h1 fun v h2 => ((v = .bool true ∧ JJ (k + 1) h2) ∨ (v = .bool false ∧ DD h2)) ∧ BB h1 h2)
    (h0 : JJ 0 h) : Wf Try.prog K 80 [Value.func (Fn.yield ya) #[] #[], .pointer (some ⟨pb0, 0, none⟩), .pointer (some ⟨pb1, 0, none⟩)] h fun _ h' => JJ (hang id 0 rs).length h' ∨ DD h' := by
  obtain ⟨⟨t0, r0, c0⟩, -, T0⟩ := hs 0 h h0
  have hn := T0.1
  have hn2 := T0.2.1
  refine vc_family_hanging_1 hk _ _ _ h _ (derefP_at ⟨_, _, _, ld1_at c0 rfl, fun i k g => ∃ u : Nat, i = u ∧ u ≤ n ∧ n - u = k ∧ JJ (hang id 0 (rs.take u)).length g, ⟨_, 0, rfl, Nat.zero_le _, rfl, by rw [List.take_zero]; exact h0⟩, ?_⟩)
  rintro k6 g7 i9 ⟨u, rfl, hu, rfl, J7⟩
  refine ⟨fun z => ?_, fun z => ?_⟩
  · obtain ⟨⟨t1, r1, c1⟩, ⟨t2, r2, c2⟩, T7⟩ := hs _ _ J7
    obtain ⟨b, off, rfl, hi', hl, h1, ok⟩ := T7.at (i := u) (by omega)
    have ht := hang_take (id := id) hi'
    have hnx : ∀ i24 : Int, i24 = IntKind.wrap .i64 ((u : Int) + 1) → i24 = ((u + 1 : Nat) : Int) := fun i24 e => by
      simp only [reachBytes] at hn2
      have := i64w e (by omega) (by omega)
      omega
    refine derefP_at ⟨_, _, _, ld1_at c1 rfl, derefP_at ⟨by omega, z, _, by rw [Int.toNat_natCast]; exact h1 4 _ rfl, derefP_at ⟨_, ld1_at c2 rfl, fun e => (hr _ g7 _ (hang_at hi' e) J7).monoF ?_, fun e i25 e25 => ?_⟩⟩⟩
    · rintro v g22 ⟨⟨rfl, J22⟩ | ⟨rfl, D22⟩, -⟩
      · refine ⟨true, rfl, ?_⟩
        simp only [Bool.not_true, cond_false]
        intro i24 e24
        rw [if_pos e] at ht
        exact ⟨n - (u + 1), by omega, u + 1, hnx i24 e24, by omega, rfl, by rw [ht, List.length_append]; exact J22⟩
      · exact ⟨false, rfl, .inr D22⟩
    · rw [if_neg e, List.append_nil] at ht
      exact ⟨n - (u + 1), by omega, u + 1, hnx i25 e25, by omega, rfl, by rw [ht]; exact J7⟩
  · refine .inl ?_
    rw [List.take_of_length_le (by omega)] at J7
    exact J7
def OwnerR (rs : List SetR) (s : SetR) : Prop := s.snap = true → (∃ j x, plcN rs s.own = some j ∧ rs[j]? = some x ∧ x.snap = false) ∧ (rs.filter fun x => decide (x.own = s.own) && decide (x.prev = s.id)).length = 1
structure KHang (K : Xs) : Prop where
  place : K 54 = none
  hanging : K 55 = none
  hanging1 : K 80 = none
theorem ownerSpec (hk : K 47 = none) (kk : KHang K) {b off : Nat} (T : Sets h (some ⟨b, off, none⟩) n rs) {i : Nat} (hi : i < n) (hi' : i < rs.length) :
    Wf Try.prog K 47 [.slice (some ⟨b, off, none⟩) n c, .pointer (some ⟨b, off + i * 11, none⟩)] h fun v h' => ImpB v (OwnerR rs rs[i]) ∧ Old h h' := by
  have hn := T.1
  have hn2 := T.2.1
  refine vc_family_ownerRight hk _ _ _ _ h _ fun g0 e0 g1 e1 => ?_
  have o0 := old_of_alloc e0
  have n0 := next_of_alloc e0
  have o1 := old_of_alloc e1
  have n1 := next_of_alloc e1
  have oh := o0.trans o1
  have c0 : g1.get h.next = _ := (o1.2 _ (by omega)).trans (get_of_alloc e0)
  have c1 := get_of_alloc e1
  obtain ⟨hi2, hl2, h1, ok⟩ := (T.old oh).at' hi
  have hat : ∀ {g : AH}, Old h g → ∀ (j : Nat) v, (setC rs[i])[j]? = some v → ld1 g b (off + i * 11 + j) = some v := fun o j v hj => by
    obtain ⟨hi3, hl3, h2, ok3⟩ := (T.old o).at' hi
    exact h2 j v hj
  generalize rs[i] = s at h1 ok hat ⊢
  refine ⟨_, ld1_at c1 rfl, derefP_at ?_⟩
  cases hs : s.snap with
  | false => exact .inr ⟨h1 2 _ (by simp [setC, hs]), .inl ⟨rfl, fun z => by rw [hs] at z; cases z⟩, oh⟩
  | true =>
    refine .inl ⟨h1 2 _ (by simp [setC, hs]), _, _, _, ld1_at c0 rfl, _, ld1_at c1 rfl, derefP_at ⟨_, h1 3 _ rfl, (placeSpec kk.place (T.old oh) _).mono ?_⟩⟩
    rintro _ _ ⟨rfl, rfl⟩
    refine ⟨_, rfl, fun y => ⟨.inr rfl, oh⟩, fun y => ⟨_, _, _, ld1_at c0 rfl, derefP_at ?_⟩⟩
    cases e : plcN rs s.own with
    | none => rw [plc_none e] at y; omega
    | some j =>
      obtain ⟨hj, -⟩ := plcN_at e
      obtain ⟨hj2, hl3, h2, ok3⟩ := (T.old oh).at' (i := j) (by omega)
      have hrj := List.getElem?_eq_getElem hj
      rw [plc_some e]
      generalize rs[j] = x at h2 hrj
      refine ⟨by omega, by omega, ?_⟩
      rw [Int.toNat_natCast]
      cases hx : x.snap with
      | true => exact .inl ⟨h2 2 _ (by simp [setC, hx]), .inr rfl, oh⟩
      | false =>
        refine .inr ⟨h2 2 _ (by simp [setC, hx]), fun g20 e20 => ?_⟩
        have o20 := old_of_alloc e20
        have n20 := next_of_alloc e20
        have nr21 := near_set g1.next g20 (.cells [.int .i64 0] 3 false)
        have c21 : (g20.set g1.next (.cells [.int .i64 0] 3 false)).get g1.next = _ := get_set_self _ _ _
        refine ⟨g20.set g1.next (.cells [.int .i64 0] 3 false), st1_of (get_of_alloc e20) (by simp), ?_⟩
        generalize g20.set g1.next (.cells [.int .i64 0] 3 false) = g21 at nr21 c21
        have o21 : Old g1 g21 := ⟨by rw [nr21.1]; omega, fun c hc => by rw [nr21.2 c (by omega), o20.2 c hc]⟩
        have l21 : g21.next = g1.next + 1 := by rw [nr21.1, n20]
        have oh21 := oh.trans o21
        refine ⟨_, _, _, ld1_at ((o21.2 _ (by omega)).trans c0) rfl, _, ld1_at ((o21.2 _ (by omega)).trans c1) rfl, derefP_at ⟨_, hat oh21 0 _ rfl, vc_family_hanging kk.hanging _ _ _ _ g21 _ fun g22 e22 g23 e23 => ?_⟩⟩
        have o22 := old_of_alloc e22
        have n22 := next_of_alloc e22
        have o23 := old_of_alloc e23
        have n23 := next_of_alloc e23
        have o2' := o22.trans o23
        have cp0 : g23.get g21.next = _ := (o23.2 _ (by omega)).trans (get_of_alloc e22)
        have cp1 := get_of_alloc e23
        have cm : g23.get g1.next = _ := (o2'.2 _ (by omega)).trans c21
        have cs0 : g23.get h.next = _ := (o2'.2 _ (by omega)).trans ((o21.2 _ (by omega)).trans c0)
        have cs1 : g23.get g0.next = _ := (o2'.2 _ (by omega)).trans ((o21.2 _ (by omega)).trans c1)
        have oh23 := oh21.trans o2'
        have oldJ : ∀ {g : AH}, g23.next < g.next → (∀ c, c < g23.next → c ≠ g1.next → g.get c = g23.get c) → Old h g := fun l k => ⟨by have := oh23.1; omega, fun c hc => by rw [k c (by omega) (by omega), oh23.2 c hc]⟩
        refine ⟨_, [.pointer (some ⟨g21.next, 0, none⟩), .pointer (some ⟨g22.next, 0, none⟩)], rfl,
          fun k g => g23.next < g.next ∧ (∀ c, c < g23.next → c ≠ g1.next → g.get c = g23.get c) ∧ g.get g1.next = some (.cells [.int .i64 (((hang s.id 0 rs).take k).filter fun q => decide (q.2.own = s.own)).length] 3 false),
          fun _ _ => False, (hang s.id 0 rs).length, hItem s.id rs, fun _ _ => False, fun _ _ => True, ⟨kk.hanging1, rfl⟩, fun i hi => ?_, fun g q1 q2 => ⟨by omega, fun c hc _ => q2 c (by omega), by rw [q2 _ (by omega)]; exact cm⟩, fun i g g' jj nr => ⟨by rw [nr.1]; exact jj.1, fun c hc hne => by rw [nr.2 c (by omega)]; exact jj.2.1 c hc hne, by rw [nr.2 _ (by omega)]; exact jj.2.2⟩,
          fun x g g' q => q.elim, fun i g g' j r => r.elim, fun x g g' q => q.elim, fun g g' r => r.elim, ?_, ?_, ?_, fun x g _ q => q.elim⟩
        · exact ⟨_, hItem_some (List.getElem?_eq_getElem hi)⟩
        · rintro k g29 hk29 J29 - i41 hit
          refine ⟨rfl, rfl, fun g43 nr hL => ?_⟩
          have hq := List.getElem?_eq_getElem hk29
          rw [hItem_some hq] at hit
          simp only [List.cons.injEq, Value.int.injEq, and_true, true_and] at hit
          obtain ⟨-, hm2, hm3⟩ := hang_mem (List.getElem_mem hk29)
          rw [Nat.sub_zero] at hm2
          have htk := List.take_succ_eq_append_getElem hk29
          generalize (hang s.id 0 rs)[k] = q at hit hm2 hm3 htk
          subst hit
          have J43 : g23.next < g43.next ∧ (∀ c, c < g23.next → c ≠ g1.next → g43.get c = g23.get c) ∧ g43.get g1.next = some (.cells [.int .i64 (((hang s.id 0 rs).take k).filter fun q => decide (q.2.own = s.own)).length] 3 false) := ⟨by rw [nr.1]; exact J29.1, fun c hc hne => by rw [nr.2 c (by omega)]; exact J29.2.1 c hc hne, by rw [nr.2 _ (by omega)]; exact J29.2.2⟩
          have o43 := oldJ J43.1 J43.2.1
          have hqn := (List.getElem?_eq_some_iff.1 hm2).1
          obtain ⟨hq2, hl4, h4, ok4⟩ := (T.old o43).at' (i := q.1) (by omega)
          have e4 : rs[q.1] = q.2 := by
            have := List.getElem?_eq_getElem hq2
            rw [hm2] at this
            exact (Option.some.inj this).symm
          rw [e4] at h4
          refine ⟨_, _, _, ld1_at ((J43.2.1 _ (by omega) (by omega)).trans cs0) rfl, derefP_at ⟨by omega, by omega, _, by rw [Int.toNat_natCast]; exact h4 3 _ rfl, _, ld1_at ((J43.2.1 _ (by omega) (by omega)).trans cs1) rfl, derefP_at ⟨_, hat o43 3 _ rfl, fun a => ⟨_, ld1_at J43.2.2 rfl, fun i55 e55 => ⟨_, st1_of J43.2.2 (by simp), ?_, ⟨?_, ?_, ?_⟩, fun _ _ => trivial⟩⟩, fun a => ⟨rfl, ⟨J43.1, J43.2.1, ?_⟩, fun _ _ => trivial⟩⟩⟩⟩
          · rw [(near_set _ _ _).2 _ (by omega)]
          · rw [(near_set _ _ _).1]; exact J43.1
          · intro c hc hne
            rw [(near_set _ _ _).2 c hne]
            exact J43.2.1 c hc hne
          · have hle : (((hang s.id 0 rs).take k).filter fun q => decide (q.2.own = s.own)).length ≤ k := Nat.le_trans (List.length_filter_le _ _) (by rw [List.length_take]; omega)
            have hlen : (hang s.id 0 rs).length ≤ rs.length := by
              have := congrArg List.length (hang_snd s.id rs 0)
              rw [List.length_map] at this
              rw [this]
              exact List.length_filter_le _ _
            simp only [reachBytes] at hn2
            have e55 := i64w e55 (by omega) (by omega)
            rw [get_set_self, htk, List.filter_append, List.length_append, List.set_cons_zero]
            have : ([q].filter fun q => decide (q.2.own = s.own)).length = 1 := by simp [a]
            rw [this, e55]
            rfl
          · rw [htk, List.filter_append, List.length_append]
            have : ([q].filter fun q => decide (q.2.own = s.own)).length = 0 := by simp [a]
            rw [this]
            exact J43.2.2
        · intro JJ DD hJ hG hDG hround g61 hj0
          refine hangGen kk.hanging1 (ya := g23.next) (pb0 := g21.next) (pb1 := g22.next) (p := some ⟨b, off, none⟩) (n := n) (c := c) (rs := rs) (id := s.id) (JJ := JJ) (DD := DD) (BB := fun _ _ => True) (fun i g1' jj => ?_) (fun k g1' q hq jj => ?_) hj0
          · obtain ⟨q1, q2, q3⟩ := hJ i g1' jj
            exact ⟨⟨_, _, (q2 _ (by omega) (by omega)).trans cp0⟩, ⟨_, _, (q2 _ (by omega) (by omega)).trans cp1⟩, T.old (oldJ q1 q2)⟩
          · have := hround k g1' (List.getElem?_eq_some_iff.1 hq).1 jj
            rw [hItem_some hq] at this
            exact this
        · rintro g65 ⟨q1, q2, q3⟩
          have dl : ∀ c, c ≠ g23.next → (g65.del g23.next).get c = g65.get c := fun c hc => by rw [AH.get_del, if_neg hc]
          have o65 : Old h (g65.del g23.next) := ⟨(oldJ q1 q2).1, fun c hc => by rw [dl c (by have := oh23.1; omega)]; exact (oldJ q1 q2).2 c hc⟩
          rw [List.take_of_length_le (Nat.le_refl _)] at q3
          have hcnt : ((hang s.id 0 rs).filter fun q => decide (q.2.own = s.own)).length = (rs.filter fun x => decide (x.own = s.own) && decide (x.prev = s.id)).length := by
            rw [← List.filter_filter, ← hang_snd s.id rs 0, List.filter_map, List.length_map]
            rfl
          rw [hcnt] at q3
          refine ⟨_, ld1_at ((dl _ (by omega)).trans q3) rfl, fun a => ⟨.inl ⟨rfl, fun _ => ⟨⟨j, x, e, hrj, hx⟩, by omega⟩⟩, o65⟩, fun a => ⟨.inr rfl, o65⟩⟩
end
end Go.Am
