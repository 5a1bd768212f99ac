/-
  THE LAWS OF SCRIPTS AS BYTES: as the abstract machine runs them.
-/
import Derived.Test.YtbadadkkpihkfaaGreatCScrC7
import Derived.Test.YtbadadkkpihkfaaGreatAmF
set_option linter.unusedVariables false
set_option linter.unusedSimpArgs false
set_option maxRecDepth 100000
namespace Go.Am
open Go.Proofs
theorem text_cut {h : AH} {p : Option Addr} {n c : Nat} {data : Bs} (T : Text h p n data) (hc : 0 < n → n ≤ c ∧ c < openCap) : 0 < n → CutP Tryz.prog h 5 p n c ∧ ∀ a, p = some a → a.block < h.next := fun hn => by
  rcases T.2.2.2.1.2 with z | ⟨b, off, al, e, ro, rfl, hb, -⟩
  · omega
  · exact ⟨.inr ⟨b, off, rfl, .inl (hc hn)⟩, fun a ha => by cases ha; exact hb⟩
theorem ops_nil (h : AH) : Ops h none 0 [] := ⟨.inl rfl, rfl, Nat.zero_le _, [], ⟨rfl, .inl rfl⟩, fun i hi => absurd hi (Nat.not_lt_zero _)⟩
section
variable {K : Xs} {h : AH}
/-- Nothing is read out of nothing, wherever that is. -/
theorem read23Any (kk : KRead23 K) {p : Option Addr} {n c : Nat} {data : Bs} (T : Text h p n data) (hc : 0 < n → n ≤ c ∧ c < openCap) :
    Wf Tryz.prog K 14 [.slice p n c] h fun v h' => ReadQ data v h' ∧ Old h h' := by
  by_cases hn : 0 < n
  · obtain ⟨h1, h2⟩ := text_cut T hc hn
    exact read23Spec kk T h1 h2
  · obtain rfl : n = 0 := by omega
    have hd : data = [] := List.eq_nil_of_length_eq_zero T.2.1.symm
    subst hd
    refine vc_aquiferref23_Read kk.read _ _ _ h _ fun g0 e0 => vc_aquiferref02_Split kk.split _ _ _ _ _ ⟨fun _ => ?_, fun z => absurd (by decide) z⟩
    have n0 := next_of_alloc e0
    refine ⟨_, _, _, _, rfl, fun z => absurd z (by decide), fun _ => ⟨rfl, _, stN_all (get_of_alloc e0) rfl, _, _, _, _, ldN_all (get_set_self _ _ _) rfl, .inr ⟨fun s k => ?_, rfl⟩, ⟨by show h.next ≤ g0.next; omega, fun b hb => by rw [get_set_ne (by omega), (old_of_alloc e0).2 b hb]⟩⟩⟩
    have := scr_split k
    cases this
theorem BytesQ.out {lim : Nat} {s : ScrP} {v : Value} {g : AH} (q : BytesQ lim s v g) : ∃ p n c i t, v = .tuple #[.slice p n c, .int .i64 i] ∧ Text g p n t ∧ ((ScrOk s ∧ i = 0 ∧ t = scrB s ∧ TextN lim g p n c t) ∨ (¬ ScrOk s ∧ i = 231 ∧ t = [])) := by
  rcases q with ⟨k, a, b, rfl, A⟩ | ⟨k, rfl⟩
  · exact ⟨_, _, _, _, _, rfl, A.1, .inl ⟨k, rfl, rfl, A⟩⟩
  · exact ⟨_, _, _, _, [], rfl, ⟨.inl rfl, rfl, Nat.zero_le _, ⟨rfl, .inl rfl⟩, fun x hx => (by cases hx)⟩, .inr ⟨k, rfl, rfl⟩⟩
theorem ReadQ.out {data : Bs} {v : Value} {g : AH} (q : ReadQ data v g) : ∃ (s : ScrP) (p : Option Addr) (n c : Nat) (i : Int), v = .tuple #[.agg #[.int .i64 s.secs, .slice p n c], .int .i64 i] ∧ Ops g p n s.ops ∧ ((ScrIs data s ∧ i = 0) ∨ ((∀ t, ¬ ScrIs data t) ∧ s = ⟨0, []⟩ ∧ i = 231)) := by
  rcases q with ⟨s, p, n, c, k, rfl, T⟩ | ⟨k, rfl⟩
  · exact ⟨s, p, n, c, _, rfl, T, .inl ⟨k, rfl⟩⟩
  · exact ⟨⟨0, []⟩, none, 0, 0, _, rfl, ops_nil g, .inr ⟨k, rfl, rfl⟩⟩
/-- A text in memory of its own. -/
theorem own_text {h g0 : AH} (e0 : g0 = h.alloc (.cells [] 5 false)) {p : Option Addr} {n c : Nat} {data : Bs} (T : Text h p n data) : ∃ p' c' g', aBuiltin Tryz.prog g0 .append #[26, 26] [.slice (some ⟨h.next, 0, none⟩) 0 0, .slice p n c] = some (.slice p' (0 + n) c', g') ∧ TextN h.next g' p' (0 + n) c' data ∧ Old h g' := by
  have hre : reachBytes = 140737488351232 := rfl
  have hrm : roomMax = 140737488355328 := rfl
  have o0 := old_of_alloc e0
  have T0 := T.old o0
  have hm := T.2.2.1
  obtain ⟨p', c', g', k, G, o, -, -⟩ := (Grow.lit (elem := 5) (sz := 1) (n := 0) e0 rfl (Nat.le_refl _)).append eU8 o0.1 (x := .slice p n c) (m := n) rfl (T0.2.2.2.1.firstC T0.1) T0.2.2.2.1.1 (by omega) (by omega) ⟨_, eU8.1⟩
  rw [List.nil_append] at G
  exact ⟨p', c', g', k, ⟨⟨G.form, by rw [Nat.zero_add]; exact T.2.1, by omega, G.shows, T.2.2.2.2⟩, G.cutP (by simp only [openCap]; omega), fun a ha => G.block ha⟩, ⟨Nat.le_trans o0.1 o.1, fun b hb => by rw [o.2 b hb, o0.2 b hb]⟩⟩
theorem scriptBytesTrue (hk : K 3 = none) (ha : K 9 = some (.sum xTrue)) (k1 : KScr K) (k2 : KScr23 K) {s : ScrP} {p : Option Addr} {n c : Nat} (T : Ops h p n s.ops) :
    Wf Tryz.prog K 3 [.agg #[.int .i64 s.secs, .slice p n c]] h fun v _ => v = .bool true := by
  refine vc_aquiferlaw23_ScriptBytes hk _ _ _ _ h _ fun g0 e0 => ?_
  have o0 := old_of_alloc e0
  have n0 := next_of_alloc e0
  have c0 : ∀ {g : AH}, Old g0 g → ldN g h.next 0 2 = some [.int .i64 s.secs, .slice p n c] := fun o => ldN_all ((o.2 _ (by omega)).trans (get_of_alloc e0)) rfl
  refine ⟨_, _, _, _, c0 (Old.refl _), (copyScr k2 (c := c) (T.old o0)).mono ?_⟩
  rintro _ g6 ⟨⟨p8, c10, rfl, T6⟩, o6⟩
  refine ⟨_, _, _, _, rfl, fun g11 e11 => ?_⟩
  obtain ⟨g12, k12, n12, o12, v12⟩ := put_new e11 (vs := [.int .i64 s.secs, .slice p8 n c10]) rfl
  have w12 := v12 [] (fun c hc => by cases hc)
  have c12 : ∀ {g : AH}, Old g12 g → ldN g g6.next 0 2 = some [.int .i64 s.secs, .slice p8 n c10] := fun o => (w12.old o).ld rfl
  have T12 := T6.old o12
  refine ⟨rfl, g12, k12, _, _, _, _, c12 (Old.refl _), (bytesSpec k1 T12).mono ?_⟩
  rintro _ g18 ⟨q18, o18⟩
  obtain ⟨p19, n19, c19, i19, t1, rfl, X1, R1⟩ := q18.out
  have o018 := (o6.trans o12).trans o18
  refine ⟨_, _, _, _, rfl, _, _, _, _, c0 o018, (bytes23Spec k2 (c := c) (T.old (o0.trans o018))).mono ?_⟩
  rintro _ g28 ⟨q28, o28⟩
  obtain ⟨p29, n29, c29, i29, t2, rfl, X2, R2⟩ := q28.out
  have o028 := o018.trans o28
  have o1228 := o18.trans o28
  have hti : t1 = t2 ∧ i19 = i29 := by
    rcases R1 with ⟨a1, a2, a3, -⟩ | ⟨a1, a2, a3⟩
    · rcases R2 with ⟨b1, b2, b3, -⟩ | ⟨b1, b2, b3⟩
      · exact ⟨a3.trans b3.symm, a2.trans b2.symm⟩
      · exact absurd a1 b1
    · rcases R2 with ⟨b1, b2, b3, -⟩ | ⟨b1, b2, b3⟩
      · exact absurd b1 a1
      · exact ⟨a3.trans b3.symm, a2.trans b2.symm⟩
  obtain ⟨rfl, rfl⟩ := hti
  refine ⟨_, _, _, _, rfl, Wf_sum ha (v := .bool true) (h' := g28) rfl (Nat.le_refl _) (.inl ⟨rfl, _, _, _, _, c12 o1228, (scrRight k1.right k1.opR k1.parts (c := c10) (T12.old o1228)).mono ?_⟩)⟩
  rintro _ g40 ⟨q40, o40⟩
  -- what follows either answer
  rcases q40 with ⟨rfl, kr⟩ | ⟨rfl, kr⟩
  · refine .inl ⟨rfl, _, _, _, _, c0 (o028.trans o40), (scrRight23 k2.right k2.right1 k2.has (c := c) (T.old (o0.trans (o028.trans o40)))).mono ?_⟩
    rintro _ g46 ⟨⟨rfl, kr2⟩ | ⟨rfl, kr2⟩, o46⟩
    rotate_left
    · exact absurd kr kr2
    have o2846 := o40.trans o46
    have o0' := o028.trans o2846
    have o12' := o1228.trans o2846
    refine .inl ⟨rfl, _, convSb (X1.old (o28.trans o2846)), _, convSb (X2.old o2846), fun _ => ⟨fun _ => ⟨_, _, _, _, c12 o12', _, _, _, _, c0 o0', (sameScr k2 (s := s) (t := s) (T12.old o12') (T.old (o0.trans o0'))).mono ?_⟩, fun z => absurd rfl z⟩, fun z => absurd rfl z⟩
    rintro _ g58 ⟨⟨rfl, -⟩ | ⟨rfl, z⟩, o58⟩
    · exact .inl ⟨rfl, c0 o028, c0 (o028.trans o40), rfl⟩
    · exact absurd rfl z
  · refine .inr ⟨rfl, _, _, _, _, c0 (o028.trans o40), (scrRight23 k2.right k2.right1 k2.has (c := c) (T.old (o0.trans (o028.trans o40)))).mono ?_⟩
    rintro _ g46 ⟨⟨rfl, kr2⟩ | ⟨rfl, kr2⟩, o46⟩
    · exact absurd kr2 kr
    have o2846 := o40.trans o46
    have o0' := o028.trans o2846
    have o12' := o1228.trans o2846
    refine .inr ⟨rfl, _, convSb (X1.old (o28.trans o2846)), _, convSb (X2.old o2846), fun _ => ⟨fun _ => ⟨_, _, _, _, c12 o12', _, _, _, _, c0 o0', (sameScr k2 (s := s) (t := s) (T12.old o12') (T.old (o0.trans o0'))).mono ?_⟩, fun z => absurd rfl z⟩, fun z => absurd rfl z⟩
    rintro _ g58 ⟨⟨rfl, -⟩ | ⟨rfl, z⟩, o58⟩
    · exact .inl ⟨rfl, c0 o028, c0 (o028.trans o40), rfl⟩
    · exact absurd rfl z
theorem scriptReadsTrue (hk : K 4 = none) (ha : K 9 = some (.sum xTrue)) (k1 : KRead K) (k2 : KRead23 K) {p : Option Addr} {n c : Nat} {data : Bs} (T : Text h p n data) (hc : 0 < n → n ≤ c ∧ c < openCap) :
    Wf Tryz.prog K 4 [.slice p n c] h fun v _ => v = .bool true := by
  refine vc_aquiferlaw23_ScriptReads hk _ _ _ h _ fun g0 e0 => ?_
  obtain ⟨p1, c3, g4, k4, T4, o4⟩ := own_text (c := c) e0 T
  refine ⟨p1, _, c3, g4, k4, (readSpec k1 T4.1 T4.2.1 fun a ha => (T4.2.2 a ha).2).mono ?_⟩
  rintro _ g6 ⟨q6, o6⟩
  obtain ⟨s, p8, n8, c8, i8, rfl, O8, R8⟩ := q6.out
  refine ⟨_, _, _, _, _, rfl, fun g12 e12 => ?_⟩
  obtain ⟨g13, k13, n13, o13, v13⟩ := put_new e12 (vs := [.int .i64 s.secs, .slice p8 n8 c8]) rfl
  have w13 := v13 [] (fun c hc => by cases hc)
  have oh13 := (o4.trans o6).trans o13
  refine ⟨rfl, g13, k13, (read23Any k2 (T.old oh13) hc).mono ?_⟩
  rintro _ g15 ⟨q15, o15⟩
  obtain ⟨t, p17, n17, c17, i17, rfl, O17, R17⟩ := q15.out
  refine ⟨_, _, _, _, _, rfl, fun g21 e21 => ?_⟩
  obtain ⟨g22, k22, n22, o22, v22⟩ := put_new e21 (vs := [.int .i64 t.secs, .slice p17 n17 c17]) rfl
  have w22 := v22 [] (fun c hc => by cases hc)
  have w13' := w13.old (o15.trans o22)
  have hst : s = t ∧ i8 = i17 := by
    rcases R8 with ⟨a1, a2⟩ | ⟨a1, a2, a3⟩
    · rcases R17 with ⟨b1, b2⟩ | ⟨b1, b2, b3⟩
      · exact ⟨a1.det b1, a2.trans b2.symm⟩
      · exact absurd a1 (b1 s)
    · rcases R17 with ⟨b1, b2⟩ | ⟨b1, b2, b3⟩
      · exact absurd b1 (a1 t)
      · exact ⟨a2.trans b2.symm, a3.trans b3.symm⟩
  obtain ⟨rfl, rfl⟩ := hst
  refine ⟨rfl, g22, k22, Wf_sum ha (v := .bool true) (h' := g22) rfl (Nat.le_refl _) (.inl ⟨rfl, _, _, _, _, w13'.ld rfl, _, _, _, _, w22.ld rfl, (sameScr k2.s23 (s := s) (t := s) (O8.old (o13.trans (o15.trans o22))) (O17.old o22)).mono ?_⟩)⟩
  rintro _ g34 ⟨⟨rfl, -⟩ | ⟨rfl, z⟩, o34⟩
  · exact .inl ⟨rfl, fun _ => rfl, fun z => absurd rfl z⟩
  · exact absurd rfl z
theorem scriptBackTrue (hk : K 5 = none) (ha : K 9 = some (.sum xTrue)) (k1 : KRead K) (k2 : KScr23 K) {s : ScrP} {p q : Option Addr} {n c m d : Nat} {data : Bs} (T : Ops h p n s.ops) (U : Text h q m data) :
    Wf Tryz.prog K 5 [.agg #[.int .i64 s.secs, .slice p n c], .slice q m d] h fun v _ => v = .bool true := by
  refine vc_aquiferlaw23_ScriptBack hk _ _ _ _ _ _ _ h _ fun g0 e0 => Wf_sum ha (v := .bool true) (h' := g0) rfl (Nat.le_refl _) (.inl ⟨rfl, ?_⟩)
  have o0 := old_of_alloc e0
  have n0 := next_of_alloc e0
  have c0 : ∀ {g : AH}, Old g0 g → ldN g h.next 0 2 = some [.int .i64 s.secs, .slice p n c] := fun o => ldN_all ((o.2 _ (by omega)).trans (get_of_alloc e0)) rfl
  refine ⟨_, _, _, _, c0 (Old.refl _), (copyScr k2 (c := c) (T.old o0)).mono ?_⟩
  rintro _ g8 ⟨⟨p10, c12, rfl, T8⟩, o8⟩
  refine ⟨_, _, _, _, rfl, (bytesSpec k1.scr T8).mono ?_⟩
  rintro _ g14 ⟨q14, o14⟩
  obtain ⟨p15, n15, c15, i15, t1, rfl, X1, R1⟩ := q14.out
  have o014 := o8.trans o14
  rcases R1 with ⟨k, rfl, rfl, N1⟩ | ⟨k, rfl, rfl⟩
  · refine ⟨_, _, _, _, rfl, fun _ => ⟨_, _, _, _, c0 o014, (scrRight k1.scr.right k1.scr.opR k1.scr.parts (c := c) (T.old (o0.trans o014))).mono ?_⟩, fun z => absurd rfl z⟩
    rintro _ g24 ⟨⟨rfl, -⟩ | ⟨rfl, z⟩, o24⟩
    rotate_left
    · exact absurd k z
    have N24 := N1.old o24
    refine .inl ⟨rfl, fun _ => (readSpec k1 N24.1 N24.2.1 fun a ha => (N24.2.2 a ha).2).mono ?_, fun z => absurd rfl z⟩
    rintro _ g26 ⟨q26, o26⟩
    obtain ⟨t, p28, n28, c28, i28, rfl, O28, R28⟩ := q26.out
    refine ⟨_, _, _, _, _, rfl, fun g32 e32 => ?_⟩
    obtain ⟨g33, k33, n33, o33, v33⟩ := put_new e32 (vs := [.int .i64 t.secs, .slice p28 n28 c28]) rfl
    have w33 := v33 [] (fun c hc => by cases hc)
    have o033 := ((o014.trans o24).trans o26).trans o33
    rcases R28 with ⟨b1, rfl⟩ | ⟨b1, -, -⟩
    rotate_left
    · exact absurd ⟨k, rfl⟩ (b1 s)
    have hst : t = s := b1.det ⟨k, rfl⟩
    subst hst
    refine ⟨rfl, g33, k33, fun _ => ⟨_, _, _, _, w33.ld rfl, _, _, _, _, c0 o033, (sameScr k2 (s := t) (t := t) (O28.old o33) (T.old (o0.trans o033))).mono ?_⟩, fun z => absurd rfl z⟩
    rintro _ g43 ⟨⟨rfl, -⟩ | ⟨rfl, z⟩, o43⟩
    rotate_left
    · exact absurd rfl z
    refine .inl ⟨rfl, ?_⟩
    generalize hO : o0.trans (o033.trans o43) = OO
    clear hO
    clear o43 w33 v33 k33 n33 e32 o33 o033
    intro g44 e44
    obtain ⟨p45, c47, g48, k48, T48, o48⟩ := own_text (c := d) e44 (U.old OO)
    refine ⟨p45, _, c47, g48, k48, (readSpec k1 T48.1 T48.2.1 fun a ha => (T48.2.2 a ha).2).mono ?_⟩
    rintro _ g50 ⟨q50, o50⟩
    obtain ⟨y, p52, n52, c52, i52, rfl, O52, R52⟩ := q50.out
    refine ⟨_, _, _, _, _, rfl, fun g56 e56 => ?_⟩
    obtain ⟨g57, k57, n57, o57, v57⟩ := put_new e56 (vs := [.int .i64 y.secs, .slice p52 n52 c52]) rfl
    have w57 := v57 [] (fun c hc => by cases hc)
    have U57 := U.old (((OO.trans o48).trans o50).trans o57)
    rcases R52 with ⟨b1, rfl⟩ | ⟨b1, rfl, rfl⟩
    · refine ⟨rfl, g57, k57, fun _ => ⟨_, _, _, _, w57.ld rfl, (bytesSpec k1.scr (c := c52) (O52.old o57)).mono ?_⟩, fun z => absurd rfl z⟩
      rintro _ g63 ⟨q63, o63⟩
      obtain ⟨p64, n64, c64, i64, t6, rfl, X6, R6⟩ := q63.out
      rcases R6 with ⟨a1, rfl, rfl, -⟩ | ⟨a1, -, -⟩
      · refine ⟨_, _, _, _, rfl, fun _ => ⟨_, convSb X6, _, convSb (U57.old o63), fun _ => rfl, fun z => absurd (by rw [b1.2]) z⟩, fun z => absurd rfl z⟩
      · exact absurd b1.1 a1
    · refine ⟨rfl, g57, k57, fun z => absurd z (by decide), fun _ => ⟨fun _ => ⟨_, _, _, _, w57.ld rfl, (sameScr k2 (s := ⟨0, []⟩) (t := ⟨0, []⟩) (O52.old o57) (ops_nil _)).mono ?_⟩, fun z => absurd rfl z⟩⟩
      rintro _ g74 ⟨⟨rfl, -⟩ | ⟨rfl, z⟩, o74⟩
      · exact .inl ⟨rfl, rfl⟩
      · exact absurd rfl z
  · refine ⟨_, _, _, _, rfl, fun z => absurd z (by decide), fun _ => ⟨_, _, _, _, c0 o014, (scrRight k1.scr.right k1.scr.opR k1.scr.parts (c := c) (T.old (o0.trans o014))).mono ?_⟩⟩
    rintro _ g43 ⟨⟨rfl, z⟩ | ⟨rfl, -⟩, o24⟩
    · exact absurd z k
    refine .inr ⟨rfl, fun z => absurd z (by decide), fun _ => ?_⟩
    have OO := o0.trans (o014.trans o24)
    intro g44 e44
    obtain ⟨p45, c47, g48, k48, T48, o48⟩ := own_text (c := d) e44 (U.old OO)
    refine ⟨p45, _, c47, g48, k48, (readSpec k1 T48.1 T48.2.1 fun a ha => (T48.2.2 a ha).2).mono ?_⟩
    rintro _ g50 ⟨q50, o50⟩
    obtain ⟨y, p52, n52, c52, i52, rfl, O52, R52⟩ := q50.out
    refine ⟨_, _, _, _, _, rfl, fun g56 e56 => ?_⟩
    obtain ⟨g57, k57, n57, o57, v57⟩ := put_new e56 (vs := [.int .i64 y.secs, .slice p52 n52 c52]) rfl
    have w57 := v57 [] (fun c hc => by cases hc)
    have U57 := U.old (((OO.trans o48).trans o50).trans o57)
    rcases R52 with ⟨b1, rfl⟩ | ⟨b1, rfl, rfl⟩
    · refine ⟨rfl, g57, k57, fun _ => ⟨_, _, _, _, w57.ld rfl, (bytesSpec k1.scr (c := c52) (O52.old o57)).mono ?_⟩, fun z => absurd rfl z⟩
      rintro _ g63 ⟨q63, o63⟩
      obtain ⟨p64, n64, c64, i64, t6, rfl, X6, R6⟩ := q63.out
      rcases R6 with ⟨a1, rfl, rfl, -⟩ | ⟨a1, -, -⟩
      · refine ⟨_, _, _, _, rfl, fun _ => ⟨_, convSb X6, _, convSb (U57.old o63), fun _ => rfl, fun z => absurd (by rw [b1.2]) z⟩, fun z => absurd rfl z⟩
      · exact absurd b1.1 a1
    · refine ⟨rfl, g57, k57, fun z => absurd z (by decide), fun _ => ⟨fun _ => ⟨_, _, _, _, w57.ld rfl, (sameScr k2 (s := ⟨0, []⟩) (t := ⟨0, []⟩) (O52.old o57) (ops_nil _)).mono ?_⟩, fun z => absurd rfl z⟩⟩
      rintro _ g74 ⟨⟨rfl, -⟩ | ⟨rfl, z⟩, o74⟩
      · exact .inl ⟨rfl, rfl⟩
      · exact absurd rfl z
end
end Go.Am
