/-
  SETS AS SPANS, gone through: is a number in it?
-/
import Derived.Test.YtnapccecmcdnjacGreatVSpan
import Derived.Test.YtnapccecmcdnjacGreatAmH
import Derived.Test.YtnapccecmcdnjacGreatPFacts
set_option linter.unusedVariables false
set_option linter.unusedSimpArgs false
namespace Go.Am
open Go.Proofs
/-- The cells of spans, the first first. -/
def spC (sp : List (Nat × Nat)) : List Value := (sp.map fun q => [Value.int .i64 q.1, Value.int .i64 q.2]).flatten
/-- The numbers of spans. -/
def exN (sp : List (Nat × Nat)) : List Nat := (sp.map fun q => List.range' q.1 q.2).flatten
/-- Spans that are a set. -/
def Gap : Int → List (Nat × Nat) → Prop
  | _, [] => True
  | e, (s, l) :: r => e < s ∧ 1 ≤ l ∧ s + l ≤ 4096 ∧ Gap (s + l : Nat) r
theorem Gap.at : ∀ {e : Int} {sp : List (Nat × Nat)}, Gap e sp → ∀ (i : Nat) (hi : i < sp.length), 1 ≤ sp[i].2 ∧ sp[i].1 + sp[i].2 ≤ 4096
  | _, (s, l) :: r, g, 0, _ => ⟨g.2.1, g.2.2.1⟩
  | _, (s, l) :: r, g, i + 1, hi => g.2.2.2.at i (by simpa using hi)
theorem spC_len (sp : List (Nat × Nat)) : (spC sp).length = sp.length * 2 := by
  induction sp with
  | nil => rfl
  | cons q r ih => simp only [spC, List.map_cons, List.flatten_cons, List.length_append, List.length_cons, List.length_nil] at *; omega
theorem spC_get : ∀ (sp : List (Nat × Nat)) (i : Nat) (hi : i < sp.length), ((spC sp).drop (i * 2)).take 2 = [.int .i64 (sp[i].1 : Nat), .int .i64 (sp[i].2 : Nat)]
  | [], i, hi => absurd hi (Nat.not_lt_zero _)
  | q :: r, 0, hi => rfl
  | q :: r, i + 1, hi => by
    have e : spC (q :: r) = [.int .i64 (q.1 : Nat), .int .i64 (q.2 : Nat)] ++ spC r := rfl
    rw [e, show (i + 1) * 2 = 2 + i * 2 by omega, List.drop_append]
    simp only [List.length_cons, List.length_nil]
    rw [List.drop_eq_nil_of_le (by simp), List.nil_append, show 2 + i * 2 - (0 + 1 + 1) = i * 2 by omega]
    exact spC_get r i (by simpa using hi)
/-- How many numbers stand in the first spans. -/
def pre (sp : List (Nat × Nat)) (j : Nat) : Nat := (exN (sp.take j)).length
theorem pre_zero (sp : List (Nat × Nat)) : pre sp 0 = 0 := rfl
theorem pre_succ (sp : List (Nat × Nat)) {j : Nat} (hj : j < sp.length) : pre sp (j + 1) = pre sp j + sp[j].2 := by
  unfold pre exN
  rw [List.take_succ_eq_append_getElem hj, List.map_append, List.flatten_append, List.length_append]
  simp
theorem pre_all (sp : List (Nat × Nat)) : pre sp sp.length = (exN sp).length := by unfold pre; rw [List.take_length]
theorem ex_at (sp : List (Nat × Nat)) {j t : Nat} (hj : j < sp.length) (ht : t < sp[j].2) : (exN sp)[pre sp j + t]? = some (sp[j].1 + t) := by
  have e0 : sp = sp.take j ++ sp[j] :: sp.drop (j + 1) := by rw [← List.drop_eq_getElem_cons hj, List.take_append_drop]
  have e1 : ∀ (x : List (Nat × Nat)) (q : Nat × Nat) (y : List (Nat × Nat)), exN (x ++ q :: y) = exN x ++ (List.range' q.1 q.2 ++ exN y) := fun x q y => by simp [exN]
  have e : exN sp = exN (sp.take j) ++ (List.range' sp[j].1 sp[j].2 ++ exN (sp.drop (j + 1))) := (congrArg exN e0).trans (e1 _ _ _)
  rw [e, List.getElem?_append_right (by unfold pre; omega), show pre sp j + t - (exN (sp.take j)).length = t by unfold pre; omega, List.getElem?_append_left (by simpa using ht)]
  simp [ht]
/-- The numbers rise. -/
theorem ex_low : ∀ {e : Int} {sp : List (Nat × Nat)}, Gap e sp → ∀ x ∈ exN sp, e < x
  | e, (s, l) :: r, g, x, hx => by
    obtain ⟨g1, g2, g3, g4⟩ := g
    unfold exN at hx
    simp only [List.map_cons, List.flatten_cons, List.mem_append, List.mem_range'_1] at hx
    rcases hx with hx | hx
    · omega
    · have := ex_low g4 x hx
      omega
theorem ex_rise : ∀ {e : Int} {sp : List (Nat × Nat)}, Gap e sp → (exN sp).Pairwise (· < ·)
  | _, [], _ => by simp [exN]
  | e, (s, l) :: r, g => by
    obtain ⟨g1, g2, g3, g4⟩ := g
    have e1 : exN ((s, l) :: r) = List.range' s l ++ exN r := rfl
    rw [e1, List.pairwise_append]
    refine ⟨List.pairwise_lt_range', ex_rise g4, fun x hx y hy => ?_⟩
    rw [List.mem_range'_1] at hx
    have := ex_low g4 y hy
    omega
section
variable {K : Xs} {h : AH}
theorem spanSingle (hk : K 123 = none) {s l : Nat} (h1 : 1 ≤ l) (h2 : s + l ≤ 4096) : Wf Tryz.prog K 123 [.agg #[.int .i64 s, .int .i64 l]] h fun v h' => v = .bool true ∧ Old h h' := by
  refine vc_span_single hk _ _ h _ fun g0 e0 => ⟨_, ld1_at (get_of_alloc e0) rfl, fun _ => ⟨_, ld1_at (get_of_alloc e0) rfl, fun _ => ⟨_, ld1_at (get_of_alloc e0) rfl, fun _ => ⟨_, ld1_at (get_of_alloc e0) rfl, _, ld1_at (get_of_alloc e0) rfl, fun i e => ?_⟩, fun q => absurd (show (1 : Int) ≤ l by omega) q⟩, fun q => absurd (show (s : Int) < 4096 by omega) q⟩, fun q => absurd (show (0 : Int) ≤ s by omega) q⟩
  have e := i64w e (by omega) (by omega)
  exact ⟨fun _ => ⟨rfl, old_of_alloc e0⟩, fun q => absurd (by omega) q⟩
/-- Are they a set? They are. -/
theorem spanRight (hk : K 94 = none) (h1 : K 123 = none) {p : Option Addr} {n c : Nat} {sp : List (Nat × Nat)} (hs : Shows h p n 2 (spC sp)) (hg : Gap (-1) sp) (hn : n ≤ 1000000) :
    Wf Tryz.prog K 94 [.slice p n c] h fun v h' => v = .bool true ∧ Old h h' := by
  have hl : n = sp.length := by have := hs.1; rw [spC_len] at this; omega
  refine vc_span_Right hk _ _ _ h _ ⟨fun e i k g => ∃ j : Nat, i = j ∧ j ≤ n ∧ n - j = k ∧ Old h g ∧ Gap e (sp.drop j) ∧ (e = -1 ∨ 0 ≤ e ∧ e ≤ 4096), ⟨n, 0, rfl, Nat.zero_le _, rfl, Old.refl _, hg, .inl rfl⟩, ?_⟩
  rintro k g e i ⟨j, rfl, hj, rfl, o, hgj, he⟩
  refine ⟨fun q => ?_, fun _ => ⟨rfl, o⟩⟩
  have hjn : j < n := by omega
  have hjl : j < sp.length := by omega
  obtain ⟨b, off, rfl, hld, -⟩ := (hs.old o).getN hjn
  rw [spC_get sp j hjl] at hld
  rw [List.drop_eq_getElem_cons hjl] at hgj
  generalize sp[j] = q at hld hgj
  obtain ⟨s, l⟩ := q
  obtain ⟨g1, g2, g3, g4⟩ := hgj
  simp only at hld
  refine derefP_at ⟨by omega, q, _, _, hld, fun g10 e10 => ⟨rfl, _, stN_all (get_of_alloc e10) rfl, _, _, ldN_all (get_set_self _ _ _) rfl, (spanSingle h1 g2 g3).mono ?_⟩⟩
  rintro _ g15 ⟨rfl, o15⟩
  have o10 := old_of_alloc e10
  have n10 := next_of_alloc e10
  have k11 := near_set g.next g10 (.cells [.int .i64 s, .int .i64 l] 70 false)
  have o11 : Old g (g10.set g.next (.cells [.int .i64 s, .int .i64 l] 70 false)) := ⟨by rw [k11.1, n10]; omega, fun c hc => by rw [k11.2 c (by omega), o10.2 c hc]⟩
  have c15 : g15.get g.next = some (.cells [.int .i64 s, .int .i64 l] 70 false) := (o15.2 _ (by rw [k11.1, n10]; omega)).trans (get_set_self _ _ _)
  refine .inl ⟨rfl, _, ld1_at c15 rfl, fun z => absurd z (by omega), fun _ => ⟨_, ld1_at c15 rfl, _, ld1_at c15 rfl, fun i19 e19 i20 e20 => ?_⟩⟩
  have e19 := i64w e19 (by omega) (by omega)
  have e20 := i64w e20 (by omega) (by omega)
  exact ⟨n - (j + 1), by omega, j + 1, by rw [e20]; rfl, hjn, rfl, (o.trans o11).trans o15, by rw [e19]; exact g4, .inr (by omega)⟩
theorem Wy.mono' {P : Program} {l : Nat} {args : List Value} {Q Q' : Value → AH → Prop} (w : Wy P K l args h Q) (f : ∀ v h', Q v h' → Q' v h') : Wy P K l args h Q' := by
  obtain ⟨n, v, h', e, q⟩ := w
  exact ⟨n, v, h', e, f v h' q⟩
/-- The numbers of a set, one after the other. -/
theorem spanEach (hk : K 142 = none) (kR : K 94 = none) (kS : K 123 = none) {p : Option Addr} {n c : Nat} {sp : List (Nat × Nat)} (hg : Gap (-1) sp) (hn : n ≤ 1000000) {ya pb lim : Nat} {JJ : Nat → AH → Prop} {DD : AH → Prop} {B : AH → AH → Prop}
    (hJ : ∀ i h1 h2, JJ i h1 → Old h1 h2 → JJ i h2) (hs : ∀ i h1, JJ i h1 → (∃ t ro, h1.get pb = some (.cells [.slice p n c] t ro)) ∧ Shows h1 p n 2 (spC sp) ∧ lim ≤ h1.next)
    (hB : ∀ h1 h2, B h1 h2 → h1.next ≤ h2.next ∧ ∀ c, lim ≤ c → c < h1.next → h2.get c = h1.get c)
    (hr : ∀ (k : Nat) (h1 : AH), k < (exN sp).length → JJ k h1 → ∀ x, (exN sp)[k]? = some x → Wy Tryz.prog K ya [.int .i64 (x : Nat)] h1 fun v h2 => ((v = .bool true ∧ JJ (k + 1) h2) ∨ (v = .bool false ∧ DD h2)) ∧ B h1 h2)
    (h0 : JJ 0 h) : Wf Tryz.prog K 142 [Value.func (Fn.yield ya) #[] #[], .pointer (some ⟨pb, 0, none⟩)] h fun _ h' => JJ (exN sp).length h' ∨ DD h' := by
  obtain ⟨⟨t0, ro0, c0⟩, s0, -⟩ := hs 0 h h0
  have hl : n = sp.length := by have := s0.1; rw [spC_len] at this; omega
  refine vc_span_each_1 hk _ _ h _ (derefP_at ⟨p, n, c, ld1_at c0 rfl, (spanRight kR kS s0 hg hn).mono ?_⟩)
  rintro _ g6 ⟨rfl, o6⟩
  have J6 := hJ _ _ _ h0 o6
  obtain ⟨⟨t6, ro6, c6⟩, s6, -⟩ := hs 0 g6 J6
  refine .inl ⟨rfl, derefP_at ⟨p, n, c, ld1_at c6 rfl, fun i k g => ∃ j : Nat, i = j ∧ j ≤ n ∧ n - j = k ∧ JJ (pre sp j) g, ⟨n, 0, rfl, Nat.zero_le _, rfl, by rw [pre_zero]; exact J6⟩, ?_⟩⟩
  rintro k13 g14 i16 ⟨j, rfl, hj, rfl, J14⟩
  refine ⟨fun q => ?_, fun q => ?_⟩
  · have hjn : j < n := by omega
    have hjl : j < sp.length := by omega
    obtain ⟨-, s14, l14⟩ := hs _ g14 J14
    obtain ⟨b, off, rfl, hld, -⟩ := s14.getN hjn
    rw [spC_get sp j hjl] at hld
    have hat := fun t (ht : t < sp[j].2) => ex_at sp hjl ht
    have hsucc := pre_succ sp hjl
    have hgj := hg.at j hjl
    generalize sp[j] = qq at hld hat hsucc hgj
    obtain ⟨s, l⟩ := qq
    simp only at hld hat hsucc hgj
    refine derefP_at ⟨by omega, q, _, _, hld, fun g21 e21 => ⟨rfl, _, stN_all (get_of_alloc e21) rfl, l, ld1_at (get_set_self _ _ _) rfl, ?_⟩⟩
    have o21 := old_of_alloc e21
    have n21 := next_of_alloc e21
    have k22 := near_set g14.next g21 (.cells [.int .i64 s, .int .i64 l] 70 false)
    have o22 : Old g14 (g21.set g14.next (.cells [.int .i64 s, .int .i64 l] 70 false)) := ⟨by rw [k22.1, n21]; omega, fun c hc => by rw [k22.2 c (by omega), o21.2 c hc]⟩
    refine ⟨fun i k g => ∃ t : Nat, i = t ∧ t ≤ l ∧ l - t = k ∧ JJ (pre sp j + t) g ∧ g14.next < g.next ∧ g.get g14.next = some (.cells [.int .i64 s, .int .i64 l] 70 false),
      ⟨l, 0, rfl, Nat.zero_le _, rfl, hJ _ _ _ J14 o22, by rw [k22.1, n21]; omega, get_set_self _ _ _⟩, ?_⟩
    rintro k25 g26 i28 ⟨t, rfl, ht, rfl, J26, l26, c26⟩
    refine ⟨fun q2 => ⟨_, ld1_at c26 rfl, fun i30 e30 => ?_⟩, fun q2 i35 e35 => ?_⟩
    · have e30 := i64w e30 (by omega) (by omega)
      have htl : t < l := by omega
      have hx := hat t htl
      have hlt := (List.getElem?_eq_some_iff.1 hx).1
      subst e30
      have hw := hr _ g26 hlt J26 _ hx
      rw [show ((s + t : Nat) : Int) = (s : Int) + (t : Int) from rfl] at hw
      refine hw.mono' ?_
      rintro v g32 ⟨⟨rfl, J32⟩ | ⟨rfl, D32⟩, hb⟩
      · refine ⟨true, rfl, fun i34 e34 => ?_⟩
        have e34 := i64w e34 (by omega) (by omega)
        obtain ⟨b1, b2⟩ := hB _ _ hb
        exact ⟨l - (t + 1), by omega, t + 1, by rw [e34]; rfl, htl, rfl, J32, by omega, (b2 _ l14 l26).trans c26⟩
      · exact ⟨false, rfl, .inr D32⟩
    · have e35 := i64w e35 (by omega) (by omega)
      have htl : t = l := by omega
      subst htl
      exact ⟨n - (j + 1), by omega, j + 1, by rw [e35]; rfl, hjn, rfl, by rw [hsucc]; exact J26⟩
  · have hjn : j = n := by omega
    subst hjn
    rw [hl, pre_all] at J14
    exact .inl J14
theorem near_del {l : Nat} {h : AH} : ∀ c, c ≠ l → (h.del l).get c = h.get c := fun c hc => by rw [AH.get_del, if_neg hc]
/-- Is a number in the set? -/
theorem spanHas (hk : K 160 = none) (kE : K 125 = none) (kE1 : K 142 = none) (kR : K 94 = none) (kS : K 123 = none) {p : Option Addr} {n c : Nat} {sp : List (Nat × Nat)} (hs : Shows h p n 2 (spC sp)) (hg : Gap (-1) sp) (hn : n ≤ 1000000) (x : Nat) :
    Wf Tryz.prog K 160 [.slice p n c, .int .i64 x] h fun v h' => v = .bool (decide (x ∈ exN sp)) ∧ Old h h' := by
  refine vc_span_Has hk _ _ _ _ h _ fun g0 e0 g1 e1 => vc_span_each kE _ _ _ g1 _ fun g3 e3 => ⟨142, [.pointer (some ⟨g1.next, 0, none⟩)], rfl, ?_⟩
  have o0 := old_of_alloc e0
  have o1 := old_of_alloc e1
  have o3 := old_of_alloc e3
  have n0 := next_of_alloc e0
  have n1 := next_of_alloc e1
  have n3 := next_of_alloc e3
  have c0 : g3.get h.next = some (.cells [.int .i64 x] 3 false) := by rw [o3.2 _ (by omega), o1.2 _ (by omega)]; exact get_of_alloc e0
  have c1 : g3.get g0.next = some (.cells [.bool false] 4 false) := by rw [o3.2 _ (by omega)]; exact get_of_alloc e1
  have c3 := get_of_alloc e3
  have s3 := ((hs.old o0).old o1).old o3
  have o03 : Old h g3 := (o0.trans o1).trans o3
  refine ⟨fun i g => g3.next < g.next ∧ Old g3 g ∧ ∀ (t y : Nat), t < i → (exN sp)[t]? = some y → y < x,
    fun a g => a = .ret ∧ g3.next < g.next ∧ (∀ c, c < g3.next → c ≠ g0.next → g.get c = g3.get c) ∧ g.get g0.next = some (.cells [.bool (decide (x ∈ exN sp))] 4 false),
    (exN sp).length, fun i => [.int .i64 ((exN sp)[i]?.getD 0 : Nat)], fun h1 h2 => g3.next < h1.next ∧ Old h1 h2, fun h1 h2 => h1.next ≤ h2.next ∧ ∀ c, g3.next < c → c < h1.next → h2.get c = h1.get c,
    ⟨kE1, rfl⟩, fun i hi => ⟨_, rfl⟩, fun h1 q1 q2 => ⟨by omega, ⟨by omega, fun c hc => q2 c (by omega)⟩, fun t y ht => absurd ht (Nat.not_lt_zero _)⟩,
    fun i h1 h2 q nr => ⟨by rw [nr.1]; exact q.1, ⟨by rw [nr.1]; exact q.2.1.1, fun c hc => by rw [nr.2 c (by omega), q.2.1.2 c hc]⟩, q.2.2⟩,
    fun a h1 h2 q nr => ⟨q.1, by rw [nr.1]; exact q.2.1, fun c hc hne => by rw [nr.2 c (by omega), q.2.2.1 c hc hne], by rw [nr.2 _ (by omega)]; exact q.2.2.2⟩,
    fun i h1 h2 q r => ⟨Nat.lt_of_lt_of_le q.1 r.2.1, q.2.1.trans r.2, q.2.2⟩,
    fun a h1 h2 q r => ⟨q.1, Nat.lt_of_lt_of_le q.2.1 r.2.1, fun c hc hne => by rw [r.2.2 c (by omega), q.2.2.1 c hc hne], by rw [r.2.2 _ (by omega)]; exact q.2.2.2⟩,
    fun h1 h2 r => r.2.2 _ r.1, ?_, ?_, ?_, ?_, ?_⟩
  · -- a round
    rintro k g11 hkN ⟨q1, q2, q3⟩ - i14 ei
    refine ⟨rfl, rfl, fun g16 nr hL => ?_⟩
    have c16 : g16.get h.next = some (.cells [.int .i64 x] 3 false) := by rw [nr.2 _ (by omega), q2.2 _ (by omega)]; exact c0
    have d16 : g16.get g0.next = some (.cells [.bool false] 4 false) := by rw [nr.2 _ (by omega), q2.2 _ (by omega)]; exact c1
    dsimp only at ei
    rw [List.getElem?_eq_getElem hkN] at ei
    simp only [Option.getD_some, List.cons.injEq, Value.int.injEq, true_and, and_true] at ei
    have rise := ex_rise hg
    have low : ∀ (t y : Nat), (exN sp)[t]? = some y → k < t → (exN sp)[k] < y := fun t y ht hkt => by
      obtain ⟨ht1, ht2⟩ := List.getElem?_eq_some_iff.1 ht
      rw [← ht2]
      exact List.pairwise_iff_getElem.1 rise k t hkN ht1 hkt
    generalize hy : (exN sp)[k] = y at ei low
    have hyk : (exN sp)[k]? = some y := by rw [List.getElem?_eq_getElem hkN, hy]
    subst ei
    have fr : ∀ b : Bool, b = decide (x ∈ exN sp) → ((g16.set g0.next (.cells [.bool b] 4 false)).get g3.next = g16.get g3.next ∧ (AX.ret = AX.ret ∧ g3.next < (g16.set g0.next (.cells [.bool b] 4 false)).next ∧ (∀ c, c < g3.next → c ≠ g0.next → (g16.set g0.next (.cells [.bool b] 4 false)).get c = g3.get c) ∧ (g16.set g0.next (.cells [.bool b] 4 false)).get g0.next = some (.cells [.bool (decide (x ∈ exN sp))] 4 false)) ∧
        ∀ h5, Near g3.next (g16.set g0.next (.cells [.bool b] 4 false)) h5 → g11.next ≤ h5.next ∧ ∀ c, g3.next < c → c < g11.next → h5.get c = g11.get c) := by
      intro b hb
      have ns := near_set g0.next g16 (.cells [.bool b] 4 false)
      refine ⟨ns.2 _ (by omega), ⟨rfl, by rw [ns.1, nr.1]; exact q1, fun c hc hne => by rw [ns.2 c hne, nr.2 c (by omega), q2.2 c hc], by rw [get_set_self, hb]⟩, fun h5 n5 => ⟨by rw [n5.1, ns.1, nr.1]; exact Nat.le_refl _, fun c hc1 hc2 => by rw [n5.2 c (by omega), ns.2 c (by omega), nr.2 c (by omega)]⟩⟩
    refine ⟨_, ld1_at c16 rfl, fun hle => ⟨_, ld1_at c16 rfl, fun he => ⟨_, st1_of d16 (by simp), fr true (by
        have : x ∈ exN sp := List.mem_of_getElem? (i := k) (by rw [hyk]; congr 1; omega)
        simp [this])⟩, fun hne => ⟨_, st1_of d16 (by simp), fr false ?_⟩⟩, fun hle => ⟨rfl, ⟨by rw [nr.1]; exact q1, ⟨by rw [nr.1]; exact q2.1, fun c hc => by rw [nr.2 c (by omega), q2.2 c hc]⟩, fun t z ht hz => ?_⟩, fun h5 n5 => ⟨by rw [n5.1, nr.1]; exact Nat.le_refl _, fun c hc1 hc2 => by rw [n5.2 c (by omega), nr.2 c (by omega)]⟩⟩⟩
    · have : x ∉ exN sp := fun hm => by
        obtain ⟨t, ht, htx⟩ := List.mem_iff_getElem.1 hm
        have hgt : (exN sp)[t]? = some x := by rw [List.getElem?_eq_getElem ht, htx]
        rcases Nat.lt_trichotomy t k with z | z | z
        · exact absurd (q3 t x z hgt) (Nat.lt_irrefl _)
        · rw [z, hyk] at hgt
          cases hgt
          exact hne rfl
        · have := low t x hgt z
          omega
      simp [this]
    · rcases Nat.lt_or_ge t k with z1 | z1
      · exact q3 t z z1 hz
      · have : t = k := by omega
        rw [this, hyk] at hz
        cases hz
        omega
  · -- the going through
    intro JJ DD hJJ hG hDG hround h25 hj0
    have := spanEach (h := h25) kE1 kR kS hg hn (ya := g3.next) (pb := g1.next) (lim := g3.next + 1) (JJ := JJ) (DD := DD) (B := fun h1 h2 => h1.next ≤ h2.next ∧ ∀ c, g3.next < c → c < h1.next → h2.get c = h1.get c) (p := p) (n := n) (c := c) (sp := sp)
      (fun i h1 h2 q o => hG i h1 h2 q ⟨(hJJ _ _ q).1, o⟩) (fun i h1 q => ⟨⟨_, _, ((hJJ _ _ q).2.1.2 _ (by omega)).trans c3⟩, s3.old (hJJ _ _ q).2.1, (hJJ _ _ q).1⟩)
      (fun h1 h2 b => ⟨b.1, fun c hc1 hc2 => b.2 c hc1 hc2⟩) (fun k h1 hk1 q y hy => by have := hround k h1 hk1 q; dsimp only at this; rw [hy] at this; exact this) hj0
    exact this
  · rintro g29 ⟨q1, q2, q3⟩
    have d29 : (g29.del g3.next).get g0.next = some (.cells [.bool false] 4 false) := by rw [near_del _ (by omega), q2.2 _ (by omega)]; exact c1
    have hno : x ∉ exN sp := fun hm => by
      obtain ⟨t, ht, htx⟩ := List.mem_iff_getElem.1 hm
      exact absurd (q3 t x ht (by rw [List.getElem?_eq_getElem ht, htx])) (Nat.lt_irrefl _)
    have ns := near_set g0.next (g29.del g3.next) (.cells ([Value.bool false].set 0 (.bool false)) 4 false)
    refine ⟨_, st1_of d29 (by simp), .inr ⟨ld1_at (get_set_self _ _ _) rfl, by simp [hno], by rw [ns.1]; show h.next ≤ g29.next; omega, fun c hc => by rw [ns.2 c (by omega), near_del _ (by omega), q2.2 c (by omega), o03.2 c hc]⟩⟩
  · rintro g31 ⟨-, q1, q2, q3⟩
    have d31 : (g31.del g3.next).get g0.next = _ := (near_del _ (by omega)).trans q3
    have ho : Old h (g31.del g3.next) := ⟨by show h.next ≤ g31.next; omega, fun c hc => by rw [near_del _ (by omega), q2 c (by omega) (by omega), o03.2 c hc]⟩
    by_cases hx : x ∈ exN sp
    · simp only [hx, decide_true] at d31
      exact .inl ⟨ld1_at d31 rfl, by simp [hx], ho⟩
    · simp only [hx, decide_false] at d31
      exact .inr ⟨ld1_at d31 rfl, by simp [hx], ho⟩
  · rintro a h1 - ⟨rfl, -⟩
    rfl
end
end Go.Am
