/-
  MOVES REPLAYED on nothing, where there is one move, of the sectors 4 to 8: what comes of it.
-/
import Derived.Test.YtnapccecmcdnjacGreatCSpan
import Derived.Test.YtnapccecmcdnjacGreatVRepl
import Derived.Test.YtnapccecmcdnjacGreatAmF
import Derived.Test.YtnapccecmcdnjacGreatAmE
import Derived.Test.YtnapccecmcdnjacGreatAmH
set_option linter.unusedVariables false
set_option linter.unusedSimpArgs false
set_option maxRecDepth 100000
namespace Go.Am
open Go.Proofs
structure KRepl (K : Xs) : Prop where
  replay : K 57 = none
  right : K 93 = none
  spanR : K 94 = none
  single : K 123 = none
  list : K 95 = none
  count : K 124 = none
  each : K 125 = none
  each1 : K 142 = none
  of : K 17 = some (.sum (xOf 70))
section
variable {K : Xs} {h : AH}
theorem showsNil (h : AH) : Shows h none 0 2 (spC []) := ⟨rfl, .inl rfl⟩
theorem countNil (kk : KRepl K) : Wf Tryz.prog K 124 [.slice none 0 0] h fun v h' => v = .int .i64 0 ∧ Old h h' := by
  refine vc_span_Count kk.count _ _ _ h _ ((spanRight kk.spanR kk.single (showsNil h) trivial (by decide)).mono ?_)
  rintro _ g1 ⟨rfl, o1⟩
  refine .inl ⟨rfl, fun m i k g => m = 0 ∧ i = 0 ∧ g = g1, ⟨0, rfl, rfl, rfl⟩, ?_⟩
  rintro k3 g4 i6 i7 ⟨rfl, rfl, rfl⟩
  exact ⟨fun z => absurd z (by decide), fun _ => ⟨rfl, o1⟩⟩
theorem listNil (kk : KRepl K) : Wf Tryz.prog K 95 [.slice none 0 0] h fun v h' => (∃ p c, v = .slice p 0 c) ∧ Old h h' := by
  refine vc_span_List kk.list _ _ _ h _ ((countNil kk).mono ?_)
  rintro _ g1 ⟨rfl, o1⟩
  refine ⟨0, rfl, ⟨by decide, by decide, by decide, by decide⟩, fun g3 e3 g4 e4 => ?_⟩
  have o3 := old_of_alloc e3
  have o4 := old_of_alloc e4
  have n3 := next_of_alloc e3
  have n4 := next_of_alloc e4
  have h1 := o1.1
  refine ⟨_, st1_of (get_of_alloc e4) (by simp), vc_span_each kk.each _ _ _ _ _ fun g6 e6 => ?_⟩
  have ns := near_set g3.next g4 (.cells ([Value.slice none 0 0].set 0 (.slice (some ⟨g1.next, 0, none⟩) (Int.toNat 0) (Int.toNat 0))) 57 false)
  have w5 := get_set_self g3.next g4 (.cells ([Value.slice none 0 0].set 0 (.slice (some ⟨g1.next, 0, none⟩) (Int.toNat 0) (Int.toNat 0))) 57 false)
  generalize hg5 : (g4.set g3.next (.cells ([Value.slice none 0 0].set 0 (.slice (some ⟨g1.next, 0, none⟩) (Int.toNat 0) (Int.toNat 0))) 57 false)) = g5 at ns w5 e6 ⊢
  have o6 := old_of_alloc e6
  have n6 := next_of_alloc e6
  have w6 := (o6.2 _ (by rw [ns.1]; omega)).trans w5
  have c6 := get_of_alloc e6
  have oh6 : Old h g6 := ⟨by have := o6.1; rw [ns.1] at this; omega, fun y hy => by rw [o6.2 y (by rw [ns.1]; omega), ns.2 y (by omega), o4.2 y (by omega), o3.2 y (by omega), o1.2 y hy]⟩
  refine ⟨142, [.pointer (some ⟨g5.next, 0, none⟩)], rfl, fun i g => g6.next < g.next ∧ ∀ c, c < g6.next → g.get c = g6.get c, fun a g => False, 0, fun _ => [], fun h1 h2 => g6.next < h1.next ∧ Old h1 h2, fun h1 h2 => h1.next ≤ h2.next ∧ ∀ c, g6.next < c → c < h1.next → h2.get c = h1.get c,
    ⟨kk.each1, rfl⟩, fun i hi => absurd hi (Nat.not_lt_zero _), fun h1 q1 q2 => ⟨by omega, fun c hc => q2 c (by omega)⟩,
    fun i h1 h2 q nr => ⟨by rw [nr.1]; exact q.1, fun c hc => by rw [nr.2 c (by omega), q.2 c hc]⟩, fun a h1 h2 q _ => q.elim,
    fun i h1 h2 q r => ⟨Nat.lt_of_lt_of_le q.1 r.2.1, fun c hc => by rw [r.2.2 c (by omega), q.2 c hc]⟩, fun a h1 h2 q _ => q.elim,
    fun h1 h2 r => r.2.2 _ r.1, fun k g hk => absurd hk (Nat.not_lt_zero _), ?_, ?_, fun a g _ q => q.elim⟩
  · intro JJ DD hJJ hG hDG hround h25 hj0
    have := spanEach (h := h25) kk.each1 kk.spanR kk.single (sp := []) trivial (by decide : (0 : Nat) ≤ 1000000) (ya := g6.next) (pb := g5.next) (lim := g6.next + 1) (JJ := JJ) (DD := DD) (B := fun h1 h2 => h1.next ≤ h2.next ∧ ∀ c, g6.next < c → c < h1.next → h2.get c = h1.get c) (p := none) (n := 0) (c := 0)
      (fun i h1 h2 q o => hG i h1 h2 q ⟨(hJJ _ _ q).1, o⟩) (fun i h1 q => ⟨⟨_, _, ((hJJ _ _ q).2 _ (by omega)).trans c6⟩, showsNil _, (hJJ _ _ q).1⟩)
      (fun h1 h2 b => ⟨b.1, fun c hc1 hc2 => b.2 c hc1 hc2⟩) (fun k h1 hk1 q y hy => absurd hk1 (Nat.not_lt_zero _)) hj0
    exact this
  · rintro g38 ⟨q1, q2⟩
    have d38 : (g38.del g6.next).get g3.next = _ := (near_del _ (by rw [n6, ns.1]; omega)).trans ((q2 _ (by rw [n6, ns.1]; omega)).trans w6)
    exact ⟨_, _, _, ld1_at d38 rfl, ⟨_, _, rfl⟩, by show h.next ≤ g38.next; have := oh6.1; omega, fun y hy => by rw [near_del _ (by have := oh6.1; omega), q2 y (by have := oh6.1; omega), oh6.2 y hy]⟩
theorem rightOne (kk : KRepl K) (b : Bool) : Wf Tryz.prog K 93 [.agg #[.bool b, .int .i64 4, .int .i64 5]] h fun v h' => v = .bool true ∧ Old h h' := by
  refine vc_slog_right kk.right _ _ _ h _ fun g0 e0 => ⟨_, _, ldN_of (off := 1) (n := 2) (get_of_alloc e0) (by simp), fun g3 e3 => ?_⟩
  have o3 := (old_of_alloc e0).trans (old_of_alloc e3)
  have S : Shows g3 (some ⟨g0.next, 0, none⟩) 1 2 (spC [(4, 5)]) := ⟨rfl, .inr ⟨_, _, _, _, _, rfl, by rw [next_of_alloc e3]; omega, get_of_alloc e3, by simp, rfl⟩⟩
  refine (spanRight kk.spanR kk.single S ⟨by decide, by decide, by decide, trivial⟩ (by decide)).mono ?_
  rintro _ g5 ⟨rfl, o5⟩
  exact .inl ⟨rfl, rfl, o3.trans o5⟩
theorem bitsL_nilR : bitsL [] = List.replicate 4096 (.bool false) := by
  apply List.ext_getElem?
  intro j
  rw [bitsL_get, List.getElem?_replicate]
  rfl
theorem zIn0 : zeroCellsOf Tryz.prog 102 = some (List.replicate 4096 (.bool false)) := by kernel_rfl
theorem zIn : zeroCellsOf Tryz.prog 102 = some (bitsL []) := by rw [bitsL_nilR]; exact zIn0
theorem eIntR : ElemOk Tryz.prog 57 3 1 8 := ElemOk_of (by kernel_rfl)
def numF (u : Nat) : List Nat := (List.range' 4 5).filter fun x => decide (x < u)
theorem numF_len (u : Nat) : (numF u).length ≤ 5 := Nat.le_trans (List.length_filter_le _ _) (by decide)
theorem numF_yes {u : Nat} (h : (List.range' 4 5).contains u = true) : numF (u + 1) = numF u ++ [u] := by
  have : u = 4 ∨ u = 5 ∨ u = 6 ∨ u = 7 ∨ u = 8 := by
    have : u ∈ List.range' 4 5 := by simpa using h
    rw [List.mem_range'] at this
    omega
  rcases this with rfl | rfl | rfl | rfl | rfl <;> rfl
theorem numF_no {u : Nat} (h : (List.range' 4 5).contains u = false) : numF (u + 1) = numF u := by
  refine List.filter_congr fun x hx => ?_
  have hne : x ≠ u := fun e => by
    subst e
    rw [show (List.range' 4 5).contains x = true by simpa using hx] at h
    cases h
  congr 1
  apply propext
  omega
theorem bitsL_congr {N M : List Nat} (h : ∀ j, N.contains j = M.contains j) : bitsL N = bitsL M := by
  unfold bitsL
  exact List.map_congr_left fun j _ => by rw [h]
theorem spans5 : spansC (bitsL (numF 4096)) 0 [] = some [(4, 5)] := by kernel_rfl
theorem natC_numC : ∀ N : List Nat, natC .i64 N = N.map fun n => Value.int .i64 (.ofNat n) := fun _ => rfl
theorem nums5 : numsOf (natC .i64 (numF 4096)) = some (numF 4096) := by kernel_rfl
theorem replayOne (kk : KRepl K) {b c : Nat} {ro : Bool} {tm : TypeId} (hb : h.get b = some (.cells [.bool true, .int .i64 4, .int .i64 5] tm ro)) (hlt : b < h.next) :
    Wf Tryz.prog K 57 [.slice none 0 0, .slice (some ⟨b, 0, none⟩) 1 c] h fun v h' => ∃ b1, v = .tuple #[.slice (some ⟨b1, 0, none⟩) 1 openCap, .int .i64 0] ∧ h.next ≤ b1 ∧ h'.get b1 = some (.cells [.int .i64 4, .int .i64 5] 70 false) ∧ Old h h' := by
  refine vc_slog_Replay kk.replay _ _ _ _ _ _ h _ ((spanRight kk.spanR kk.single (showsNil h) trivial (by decide)).mono ?_)
  rintro _ g1 ⟨rfl, o1⟩
  refine .inl ⟨rfl, _, zIn, fun g3 e3 => (listNil kk).mono ?_⟩
  have o3 := old_of_alloc e3
  have n3 := next_of_alloc e3
  have h1 := o1.1
  rintro _ g5 ⟨⟨p6, c8, rfl⟩, o5⟩
  refine ⟨_, _, _, rfl, fun i k g => i = 0 ∧ k = 0 ∧ g = g5, ⟨0, rfl, rfl, rfl⟩, ?_⟩
  rintro k10 g11 i13 ⟨rfl, rfl, rfl⟩
  refine ⟨fun z => absurd z (by decide), fun _ => ?_⟩
  have w11 := (o5.2 _ (by omega)).trans (get_of_alloc e3)
  have oh11 : Old h g11 := (o1.trans o3).trans o5
  have l11 : g1.next < g11.next := by have := o5.1; omega
  refine ⟨fun i k g => (i = 0 ∧ k = 1 ∧ g = g11) ∨ (i = 1 ∧ k = 0 ∧ Old h g ∧ g1.next < g.next ∧ g.get g1.next = some (.cells (bitsL (List.range' 4 5)) 102 false)), ⟨1, .inl ⟨rfl, rfl, rfl⟩⟩, ?_⟩
  rintro k20 g21 i23 (⟨rfl, rfl, rfl⟩ | ⟨rfl, rfl, o21, l21, w21⟩)
  · refine ⟨fun z => ?_, fun z => absurd z (by decide)⟩
    have b21 := (oh11.2 _ hlt).trans hb
    refine derefP_at ⟨by decide, z, _, _, _, ldN_of (off := 0) (n := 3) b21 (by simp), fun g29 e29 => ?_⟩
    obtain ⟨g30, k30, n30, o30, v30⟩ := put_new e29 (vs := [.bool true, .int .i64 4, .int .i64 5]) rfl
    have w30 := (v30 [] (fun c hc => by cases hc)).1
    refine ⟨rfl, g30, k30, _, _, _, ldN_all w30 rfl, (rightOne kk true).mono ?_⟩
    rintro _ g35 ⟨rfl, o35⟩
    have w35 := (o35.2 _ (by omega)).trans w30
    have a35 := (o35.2 _ (by omega)).trans ((o30.2 _ l11).trans w11)
    have oh35 := oh11.trans (o30.trans o35)
    have n35 := o35.1
    refine .inl ⟨rfl, _, ld1_at w35 rfl, fun i k g => ∃ j : Nat, i = j ∧ j ≤ 5 ∧ 5 - j = k ∧ Old h g ∧ g21.next < g.next ∧ g.get g21.next = some (.cells [.bool true, .int .i64 4, .int .i64 5] 188 false) ∧ g.get g1.next = some (.cells (bitsL (List.range' 4 j)) 102 false), ⟨5, 0, rfl, by decide, rfl, oh35, by omega, w35, a35⟩, ?_⟩
    rintro k38 g39 i41 ⟨j, rfl, hj, rfl, o39, l39, w39, a39⟩
    refine ⟨fun z => ⟨_, ld1_at w39 rfl, fun i43 e43 => ?_⟩, fun z i52 e52 => ⟨0, Nat.zero_lt_one, .inr ⟨(i64w e52 (by decide) (by decide)).trans rfl, rfl, o39, by omega, ?_⟩⟩⟩
    · obtain rfl : i43 = ((4 + j : Nat) : Int) := by rw [i64w e43 (by omega) (by omega)]; omega
      have hlt2 : 4 + j < 4096 := by omega
      have hno : (List.range' 4 j).contains (4 + j) = false := by
        rw [← Bool.not_eq_true, List.contains_iff_mem, List.mem_range']
        omega
      have ld : ld1 g39 g1.next (0 + Int.toNat ((4 + j : Nat) : Int) * 1) = some (.bool false) := by
        refine ld1_at a39 ?_
        rw [Int.toNat_natCast, Nat.zero_add, Nat.mul_one, bitsL_get, if_pos hlt2, hno]
      have st : st1 g39 g1.next (0 + Int.toNat ((4 + j : Nat) : Int) * 1) (.bool true) = some (g39.set g1.next (.cells (bitsL (List.range' 4 (j + 1))) 102 false)) := by
        rw [st1_of a39 (by rw [Int.toNat_natCast, bitsL_len]; omega), Int.toNat_natCast, Nat.zero_add, Nat.mul_one, bitsL_set _ _ hlt2]
        congr 4
        rw [List.range'_concat]
        simp
      refine ⟨by omega, by omega, .inr ⟨ld, .inl ⟨ld1_at w39 rfl, .inl ⟨ld1_at w39 rfl, by omega, by omega, _, st, fun i49 e49 => ?_⟩⟩⟩⟩
      have ns := near_set g1.next g39 (.cells (bitsL (List.range' 4 (j + 1))) 102 false)
      exact ⟨5 - (j + 1), by omega, j + 1, (i64w e49 (by omega) (by omega)).trans rfl, by omega, rfl, ⟨by rw [ns.1]; exact o39.1, fun y hy => (ns.2 y (by omega)).trans (o39.2 y hy)⟩, by rw [ns.1]; exact l39, (ns.2 _ (by omega)).trans w39, get_set_self _ _ _⟩
    · obtain rfl : j = 5 := by omega
      exact a39
  · refine ⟨fun z => absurd z (by decide), fun _ => ⟨_, ldN_all w21 (bitsL_len _), ?_⟩⟩
    refine ⟨fun p n c i k g => ∃ u : Nat, i = u ∧ u ≤ 4096 ∧ 4096 - u = k ∧ Old h g ∧ Grow h.next g 3 1 p n c (natC .i64 (numF u)), ⟨4096, 0, rfl, by decide, rfl, o21, Grow.nil _ _ _ _⟩, ?_⟩
    rintro k55 g56 p58 n59 c60 i61 ⟨u, rfl, hu, rfl, o56, G⟩
    have hn : n59 ≤ 5 := by
      have := G.1
      rw [natC_len] at this
      have := numF_len u
      omega
    refine ⟨fun z => ⟨by omega, z, ?_⟩, fun z => ?_⟩
    · have hu2 : u < 4096 := by omega
      rw [Int.toNat_natCast, Nat.mul_one, bitsL_get, if_pos hu2]
      have hh := o56.1
      cases hc : (List.range' 4 5).contains u with
      | true =>
        refine .inl ⟨rfl, fun g62 e62 => ?_⟩
        obtain ⟨p63, c65, g66, k66, G66, o66, -, -⟩ := G.push eIntR (by omega) (m := 1) (ns := [.int .i64 u]) e62 rfl (by simp only [roomMax]; omega) (by omega)
        refine ⟨p63, _, c65, g66, k66, fun i67 e67 => ⟨4096 - (u + 1), by omega, u + 1, (i64w e67 (by omega) (by omega)).trans rfl, by omega, rfl, ⟨Nat.le_trans hh o66.1, fun y hy => (o66.2 y hy).trans (o56.2 y hy)⟩, ?_⟩⟩
        rw [numF_yes hc]
        simpa [natC] using G66
      | false =>
        refine .inr ⟨rfl, fun i68 e68 => ⟨4096 - (u + 1), by omega, u + 1, (i64w e68 (by omega) (by omega)).trans rfl, by omega, rfl, o56, ?_⟩⟩
        rw [numF_no hc]
        exact G
    · obtain rfl : u = 4096 := by omega
      obtain ⟨hl, ⟨-, rfl, -⟩ | ⟨b1, rfl, hb1, hb2, hg, -⟩⟩ := G
      · exact absurd hl (by decide)
      have hn5 : n59 = 5 := by
        rw [natC_len, Nat.mul_one] at hl
        rw [← hl]
        rfl
      subst hn5
      have hx : xOf 70 [.slice (some ⟨b1, 0, none⟩) 5 c60] g56 = some (.slice (some ⟨g56.next + 1 + 1, 0, none⟩) 1 openCap, ⟨g56.tr.set (g56.next + 1 + 1) (.cells [.int .i64 4, .int .i64 5] 70 false), g56.next + 1 + 2⟩) := by
        unfold xOf
        simp only [hg]
        rw [List.drop_zero, show (natC .i64 (numF 4096)).take 5 = natC .i64 (numF 4096) from rfl, nums5]
        simp only
        have hcc : (Nat.ble (0 + 5) (natC .i64 (numF 4096)).length && Nat.blt 5 9223372036854775807 && Nat.blt b1 g56.next) = true := by
          have : Nat.blt b1 g56.next = true := by rw [Nat.blt_eq]; exact hb2
          rw [this]
          rfl
        rw [hcc, spans5]
        rfl
      refine Wf_sum kk.of hx (by show g56.next ≤ g56.next + 1 + 2; omega) ⟨_, _, _, rfl, _, rfl, by have := o56.1; omega, ?_, by show h.next ≤ g56.next + 1 + 2; have := o56.1; omega, fun y hy => ?_⟩
      · show (g56.tr.set (g56.next + 1 + 1) _).get (g56.next + 1 + 1) = _
        rw [Tr.get_set, if_pos rfl]
      · show (g56.tr.set (g56.next + 1 + 1) _).get y = _
        rw [Tr.get_set, if_neg (by have := o56.1; omega)]
        exact o56.2 y hy
/-- The call, as it is remembered. -/
theorem replayMemo {P : Program} (hP : P = Tryz.prog) (kk : KRepl K) {b c n1 : Nat} {n0 : Nat} {o0 o1 : FObj} (h0 : o0.abs = .cells [.bool true, .int .i64 4, .int .i64 5] 188 false) (h1 : o1.abs = .cells [.int .i64 4, .int .i64 5] 70 false) (hb : b < n0) (hn : n0 < n1) :
    MemoOkR P K 57 ⟨[.slice none 0 0, .slice (some ⟨b, 0, none⟩) 1 c], n0, [(b, o0)], .tuple #[.slice (some ⟨n0, 0, none⟩) 1 openCap, .int .i64 0], [(n0, some o1)], n1⟩ := by
  subst hP
  have sc : ScO (.cells [.bool true, .int .i64 4, .int .i64 5] 188 false) := ⟨_, _, _, rfl, fun v hv => by
    simp only [List.mem_cons, List.not_mem_nil, or_false] at hv
    rcases hv with rfl | rfl | rfl
    · exact .inr ⟨_, rfl⟩
    · exact .inl ⟨_, _, rfl⟩
    · exact .inl ⟨_, _, rfl⟩⟩
  have sc1 : ScO (.cells [.int .i64 4, .int .i64 5] 70 false) := ⟨_, _, _, rfl, fun v hv => by
    simp only [List.mem_cons, List.not_mem_nil, or_false] at hv
    rcases hv with rfl | rfl
    · exact .inl ⟨_, _, rfl⟩
    · exact .inl ⟨_, _, rfl⟩⟩
  refine ⟨fun a ha => ?_, ?_⟩
  · simp only [List.mem_cons, List.not_mem_nil, or_false] at ha
    rcases ha with rfl | rfl
    · exact .inr (.inl ⟨_, _, rfl⟩)
    · exact .inr (.inr ⟨_, _, _, _, rfl, hb⟩)
  · have hg : (Memo.h0 ⟨[.slice none 0 0, .slice (some ⟨b, 0, none⟩) 1 c], n0, [(b, o0)], .tuple #[.slice (some ⟨n0, 0, none⟩) 1 openCap, .int .i64 0], [(n0, some o1)], n1⟩).abs.get b = some (.cells [.bool true, .int .i64 4, .int .i64 5] 188 false) := by
      rw [FH.abs_get]
      unfold FH.get
      rw [forceN_eq, Tr.getP_pt]
      show ((Tr.setP (some o0) (pt b) .nil).get b).map FObj.abs = _
      rw [setP_get, if_pos rfl, ← h0]
      rfl
    obtain ⟨n, v, Hf, hc, b1, rfl, hb1, hgb, ho⟩ := replayOne (c := c) kk hg hb
    unfold callX at hc; rw [kk.replay] at hc
    refine ⟨n, Hf, b1, 1, o1, rfl, rfl, hn, hc, hb1, by rw [h1]; exact hgb, by rw [h1]; exact sc1, fun p hp => ?_⟩
    rw [List.mem_singleton.1 hp]
    exact ⟨by rw [h0]; exact (ho.2 b hb).trans hg, by rw [h0]; exact sc⟩
end
end Go.Am
