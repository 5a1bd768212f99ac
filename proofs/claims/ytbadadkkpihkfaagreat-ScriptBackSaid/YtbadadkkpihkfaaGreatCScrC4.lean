/-
  SCRIPTS THAT ARE THE SAME, scripts in memory of their own.
-/
import Derived.Test.YtbadadkkpihkfaaGreatCScrC3
set_option linter.unusedVariables false
set_option linter.unusedSimpArgs false
set_option maxRecDepth 100000
namespace Go.Am
open Go.Proofs
theorem Bools.kept {h h' : AH} {p : Option Addr} {n : Nat} {l : List Bool} (t : Bools h p n l) (hn : h.next ≤ h'.next) (k : ∀ a, p = some a → h'.get a.block = h.get a.block) : Bools h' p n l := ⟨t.1, t.2.1, t.2.2.1, t.2.2.2.kept hn k⟩
/-- An op's cells, its parts in blocks of their own. -/
def OpAtN (lim : Nat) (g : AH) (p : Option Addr) (cs : List Value) (o : OpP) : Prop := ∃ pd nd cd pk nk ck, cs = [.int .i64 o.kind, .string o.name, .string o.to, .int .i64 o.n, .slice pd nd cd, .slice pk nk ck] ∧ Text g pd nd o.data ∧ Bools g pk nk o.keep ∧ o.name.size ≤ reachBytes ∧ o.to.size ≤ reachBytes ∧ (∀ a, pd = some a → lim ≤ a.block ∧ a.block < g.next ∧ apart p a.block) ∧ ∀ a, pk = some a → lim ≤ a.block ∧ a.block < g.next ∧ apart p a.block
theorem OpAtN.at {lim : Nat} {g : AH} {p : Option Addr} {cs : List Value} {o : OpP} (k : OpAtN lim g p cs o) : OpAt g cs o := by
  obtain ⟨pd, nd, cd, pk, nk, ck, e, t1, t2, t3, t4, -⟩ := k
  exact ⟨pd, nd, cd, pk, nk, ck, e, t1, t2, t3, t4⟩
/-- Elsewhere something is other, or the row lies elsewhere. -/
theorem OpAtN.kept {lim : Nat} {g g' : AH} {p p' : Option Addr} {cs : List Value} {o : OpP} (k : OpAtN lim g p cs o) (hn : g.next ≤ g'.next) (hb : ∀ b, lim ≤ b → b < g.next → apart p b → g'.get b = g.get b) (hp : ∀ b, b < g.next → apart p b → apart p' b) : OpAtN lim g' p' cs o := by
  obtain ⟨pd, nd, cd, pk, nk, ck, e, t1, t2, t3, t4, t5, t6⟩ := k
  exact ⟨pd, nd, cd, pk, nk, ck, e, t1.kept hn fun a ha => hb _ (t5 a ha).1 (t5 a ha).2.1 (t5 a ha).2.2, t2.kept hn fun a ha => hb _ (t6 a ha).1 (t6 a ha).2.1 (t6 a ha).2.2, t3, t4, fun a ha => ⟨(t5 a ha).1, Nat.lt_of_lt_of_le (t5 a ha).2.1 hn, hp _ (t5 a ha).2.1 (t5 a ha).2.2⟩, fun a ha => ⟨(t6 a ha).1, Nat.lt_of_lt_of_le (t6 a ha).2.1 hn, hp _ (t6 a ha).2.1 (t6 a ha).2.2⟩⟩
/-- A row of ops that grows. -/
def OpsG (lim : Nat) (g : AH) (p : Option Addr) (n c : Nat) (os : List OpP) : Prop := n = os.length ∧ ∃ cells, Grow lim g 43 6 p n c cells ∧ ∀ (i : Nat) (hi : i < os.length), OpAtN lim g p ((cells.drop (i * 6)).take 6) os[i]
theorem OpsG.nil (lim : Nat) (g : AH) : OpsG lim g none 0 0 [] := ⟨rfl, [], Grow.nil _ _ _ _, fun i hi => absurd hi (Nat.not_lt_zero _)⟩
theorem OpsG.lit {lim : Nat} {h h1 : AH} (e : h1 = h.alloc (.cells [] 43 false)) (hl : lim ≤ h.next) : OpsG lim h1 (some ⟨h.next, 0, none⟩) 0 0 [] := ⟨rfl, [], Grow.lit e rfl hl, fun i hi => absurd hi (Nat.not_lt_zero _)⟩
theorem OpsG.kept {lim : Nat} {g g' : AH} {p : Option Addr} {n c : Nat} {os : List OpP} (R : OpsG lim g p n c os) (hn : g.next ≤ g'.next) (k : ∀ b, lim ≤ b → b < g.next → g'.get b = g.get b) : OpsG lim g' p n c os := by
  obtain ⟨h1, cells, h2, h3⟩ := R
  refine ⟨h1, cells, ⟨h2.1, ?_⟩, fun i hi => (h3 i hi).kept hn (fun b q1 q2 _ => k b q1 q2) fun b _ q => q⟩
  rcases h2.2 with z | ⟨b, q1, q2, q3, q4, q5⟩
  · exact .inl z
  · exact .inr ⟨b, q1, q2, Nat.lt_of_lt_of_le q3 hn, by rw [k b q2 q3]; exact q4, q5⟩
theorem OpsG.old {lim : Nat} {g g' : AH} {p : Option Addr} {n c : Nat} {os : List OpP} (R : OpsG lim g p n c os) (o : Old g g') : OpsG lim g' p n c os := R.kept o.1 fun b _ hb => o.2 b hb
theorem OpsG.ops {lim : Nat} {g : AH} {p : Option Addr} {n c : Nat} {os : List OpP} (R : OpsG lim g p n c os) (hn : n * 96 ≤ reachBytes) : Ops g p n os := by
  obtain ⟨h1, cells, h2, h3⟩ := R
  exact ⟨h2.form, h1, hn, cells, h2.shows, fun i hi => (h3 i hi).at⟩
theorem OpsG.push {lim : Nat} {g g4 : AH} {p : Option Addr} {n c : Nat} {os : List OpP} (R : OpsG lim g p n c os) (hl : lim ≤ g.next) {cs : List Value} {o : OpP} (A : OpAtN lim g p cs o) (e4 : g4 = g.alloc (.cells cs 43 false)) (hm : (n + 1) * 96 ≤ roomMax) :
    ∃ p2 c2 g2, aBuiltin Tryz.prog g4 .append #[22, 22] [.slice p n c, .slice (some ⟨g.next, 0, none⟩) 1 1] = some (.slice p2 (n + 1) c2, g2) ∧ OpsG lim g2 p2 (n + 1) c2 (os ++ [o]) ∧ OldB lim g g2 ∧ ∀ b, b < g.next → apart p b → g2.get b = g.get b := by
  obtain ⟨h1, cells, h2, h3⟩ := R
  have hrm : roomMax = 140737488355328 := rfl
  have cl6 : cs.length = 6 := by obtain ⟨pd, nd, cd, pk, nk, ck, e, -⟩ := A; rw [e]; rfl
  obtain ⟨p2, c2, g2, k2, G2, o2, f2, m2⟩ := h2.push eOps hl e4 (m := 1) (by rw [cl6]) hm (by omega)
  obtain ⟨b2, rfl, hb2⟩ := m2 (by omega)
  have cl : cells.length = os.length * 6 := by have := h2.1; rw [← h1]; exact this
  have hap : ∀ b, b < g.next → apart p b → apart (some ⟨b2, 0, none⟩) b := fun b hb _ => by show b2 ≠ b; omega
  refine ⟨_, c2, g2, k2, ⟨by simp [h1], _, G2, fun i hi => ?_⟩, o2, f2⟩
  by_cases hi' : i < os.length
  · have := h3 i hi'
    rw [List.getElem_append_left hi', show ((cells ++ cs).drop (i * 6)).take 6 = (cells.drop (i * 6)).take 6 by rw [List.drop_append_of_le_length (by omega), List.take_append_of_le_length (by rw [List.length_drop]; omega)]]
    exact this.kept o2.1 (fun b _ q1 q2 => f2 b q1 q2) hap
  · have hie : i = os.length := by simp at hi; omega
    subst hie
    simp only [List.getElem_append_right (Nat.le_refl _), Nat.sub_self, List.getElem_cons_zero]
    rw [show ((cells ++ cs).drop (os.length * 6)).take 6 = cs by rw [← cl, List.drop_left, List.take_of_length_le (by omega)]]
    exact A.kept o2.1 (fun b _ q1 q2 => f2 b q1 q2) hap
theorem bolC_inj {a b : List Bool} (h : bolC a = bolC b) : a = b := by
  induction a generalizing b with
  | nil => cases b with | nil => rfl | cons y b => cases h
  | cons x a ih =>
    cases b with
    | nil => cases h
    | cons y b =>
      simp only [bolC, List.map_cons, List.cons.injEq, Value.bool.injEq] at h
      rw [h.1, ih h.2]
section
variable {K : Xs} {h : AH}
theorem equalSpec (hk : K 26 = none) {p q : Option Addr} {n m c d : Nat} {a b : Bs} (A : Text h p n a) (B : Text h q m b) :
    Wf Tryz.prog K 26 [.slice p n c, .slice q m d] h fun v h' => BoolS v (a = b) ∧ h = h' :=
  vc_bytes_Equal hk _ _ _ _ _ _ h _ ⟨_, convSb A, _, convSb B, fun z => ⟨.inl ⟨rfl, strOf_inj A.2.2.2.2 B.2.2.2.2 z⟩, rfl⟩, fun z => ⟨.inr ⟨rfl, fun e => z (by rw [e])⟩, rfl⟩⟩
theorem same23Spec (kk : KScr23 K) {a b : OpP} {pd pk qd qk : Option Addr} {nd nk md mk cd ck dd dk : Nat} (A1 : Text h pd nd a.data) (A2 : Bools h pk nk a.keep) (B1 : Text h qd md b.data) (B2 : Bools h qk mk b.keep) :
    Wf Tryz.prog K 22 [.agg #[.int .i64 a.kind, .string a.name, .string a.to, .int .i64 a.n, .slice pd nd cd, .slice pk nk ck], .agg #[.int .i64 b.kind, .string b.name, .string b.to, .int .i64 b.n, .slice qd md dd, .slice qk mk dk]] h fun v h' => BoolS v (a = b) ∧ Old h h' := by
  refine vc_aquiferref23_same kk.same1 _ _ _ _ _ _ _ _ _ _ _ _ _ _ _ _ _ _ _ _ h _ fun g0 e0 g1 e1 => ?_
  have o0 := old_of_alloc e0
  have o1 := old_of_alloc e1
  have n0 := next_of_alloc e0
  have n1 := next_of_alloc e1
  have oh := o0.trans o1
  have c0 : ∀ {g : AH}, Old g1 g → g.get h.next = _ := fun o => ((o1.trans o).2 _ (by omega)).trans (get_of_alloc e0)
  have c1 : ∀ {g : AH}, Old g1 g → g.get g0.next = _ := fun o => (o.2 _ (by omega)).trans (get_of_alloc e1)
  have rf := Old.refl g1
  have no : ∀ {g : AH}, Old g1 g → ¬ a = b → BoolS (.bool false) (a = b) ∧ Old h g := fun o z => ⟨.inr ⟨rfl, z⟩, oh.trans o⟩
  have hA := A2.2.1
  have hB := B2.2.1
  have hre : reachBytes = 140737488351232 := rfl
  have hAm := A2.2.2.1
  refine ⟨_, ld1_at (c0 rf) rfl, _, ld1_at (c1 rf) rfl, fun z1 => ⟨_, ld1_at (c0 rf) rfl, _, ld1_at (c1 rf) rfl, fun z2 => ⟨_, ld1_at (c0 rf) rfl, _, ld1_at (c1 rf) rfl, fun z3 => ⟨_, ld1_at (c0 rf) rfl, _, ld1_at (c1 rf) rfl, fun z4 =>
    ⟨_, _, _, ld1_at (c0 rf) rfl, _, convSb (A1.old oh), _, _, _, ld1_at (c1 rf) rfl, _, convSb (B1.old oh), fun z5 => ⟨_, _, _, ld1_at (c0 rf) rfl, _, _, _, ld1_at (c1 rf) rfl, fun z6 => ⟨_, _, _, ld1_at (c0 rf) rfl, ?_⟩, fun z6 => no rf fun e => z6 (by rw [hA, hB, e])⟩, fun z5 => no rf fun e => z5 (by rw [e])⟩, fun z4 => no rf fun e => z4 (by rw [e])⟩, fun z3 => no rf fun e => z3 (by rw [e])⟩, fun z2 => no rf fun e => z2 (by rw [e])⟩, fun z1 => no rf fun e => z1 (by rw [e])⟩
  have hnm : nk = mk := by omega
  subst hnm
  refine ⟨fun i k g => ∃ j : Nat, i = j ∧ j ≤ nk ∧ nk - j = k ∧ g1 = g ∧ a.keep.take j = b.keep.take j, ⟨_, 0, rfl, Nat.zero_le _, rfl, rfl, by simp⟩, ?_⟩
  rintro k28 g29 i31 ⟨j, rfl, hj, rfl, rfl, hb⟩
  refine ⟨fun z => ?_, fun z => ?_⟩
  · have hj' : j < nk := by omega
    obtain ⟨b1, f1, rfl, h1, l1⟩ := (A2.old oh).at hj'
    obtain ⟨b2, f2, rfl, h2, l2⟩ := (B2.old oh).at hj'
    have step : a.keep[j] = b.keep[j] → a.keep.take (j + 1) = b.keep.take (j + 1) := fun e => by rw [List.take_succ_eq_append_getElem h1, List.take_succ_eq_append_getElem h2, hb, e]
    have diff : a.keep[j] ≠ b.keep[j] → ¬ a = b := fun e z => e (by
      have := congrArg (fun o : OpP => o.keep[j]?) z
      simp only [List.getElem?_eq_getElem h1, List.getElem?_eq_getElem h2, Option.some.injEq] at this
      exact this)
    refine ⟨_, _, _, ld1_at (c0 rf) rfl, derefP_at ⟨by omega, z, orB (by rw [Int.toNat_natCast, Nat.mul_one]; exact l1) (fun q1 => ⟨_, _, _, ld1_at (c1 rf) rfl, derefP_at ⟨by omega, z, orB (by rw [Int.toNat_natCast, Nat.mul_one]; exact l2) (fun q2 i e => ?_) (fun q2 => no rf (diff (by rw [q1, q2]; decide)))⟩⟩) fun q1 => ⟨_, _, _, ld1_at (c1 rf) rfl, derefP_at ⟨by omega, z, orB (by rw [Int.toNat_natCast, Nat.mul_one]; exact l2) (fun q2 => no rf (diff (by rw [q1, q2]; decide))) (fun q2 i e => ?_)⟩⟩⟩⟩
    all_goals
      have e := i64w e (by omega) (by omega)
      exact ⟨_, by omega, j + 1, by rw [e]; rfl, hj', rfl, rfl, step (by rw [q1, q2])⟩
  · refine ⟨.inl ⟨rfl, ?_⟩, oh⟩
    rw [List.take_of_length_le (by omega), List.take_of_length_le (by omega)] at hb
    have z7 := strOf_inj A1.2.2.2.2 B1.2.2.2.2 z5
    clear z5
    obtain ⟨a1, a2, a3, a4, a5, a6⟩ := a
    obtain ⟨b1, b2, b3, b4, b5, b6⟩ := b
    simp only at z1 z2 z3 z4 z7 hb
    subst z1 z2 z3 z4 z7 hb
    rfl
theorem sameScr (kk : KScr23 K) {s t : ScrP} {p q : Option Addr} {n m c d : Nat} (T : Ops h p n s.ops) (U : Ops h q m t.ops) :
    Wf Tryz.prog K 12 [.agg #[.int .i64 s.secs, .slice p n c], .agg #[.int .i64 t.secs, .slice q m d]] h fun v h' => BoolS v (s = t) ∧ Old h h' := by
  refine vc_aquiferref23_Same kk.same _ _ _ _ _ _ _ _ h _ fun g0 e0 g1 e1 => ?_
  have o0 := old_of_alloc e0
  have o1 := old_of_alloc e1
  have n0 := next_of_alloc e0
  have n1 := next_of_alloc e1
  have oh := o0.trans o1
  have c0 : ∀ {g : AH}, Old g1 g → g.get h.next = _ := fun o => ((o1.trans o).2 _ (by omega)).trans (get_of_alloc e0)
  have c1 : ∀ {g : AH}, Old g1 g → g.get g0.next = _ := fun o => (o.2 _ (by omega)).trans (get_of_alloc e1)
  have rf := Old.refl g1
  have no : ∀ {g : AH}, Old g1 g → ¬ s = t → BoolS (.bool false) (s = t) ∧ Old h g := fun o z => ⟨.inr ⟨rfl, z⟩, oh.trans o⟩
  have hA := T.2.1
  have hB := U.2.1
  have hre : reachBytes = 140737488351232 := rfl
  have hAm := T.2.2.1
  refine ⟨_, ld1_at (c0 rf) rfl, _, ld1_at (c1 rf) rfl, fun z1 => ⟨_, _, _, ld1_at (c0 rf) rfl, _, _, _, ld1_at (c1 rf) rfl, fun z2 => ⟨_, _, _, ld1_at (c0 rf) rfl, ?_⟩, fun z2 => no rf fun e => z2 (by rw [hA, hB, e])⟩, fun z1 => no rf fun e => z1 (by rw [e])⟩
  have hnm : n = m := by omega
  subst hnm
  refine ⟨fun i k g => ∃ j : Nat, i = j ∧ j ≤ n ∧ n - j = k ∧ Old g1 g ∧ s.ops.take j = t.ops.take j, ⟨_, 0, rfl, Nat.zero_le _, rfl, rf, by simp⟩, ?_⟩
  rintro k28 g29 i31 ⟨j, rfl, hj, rfl, o29, hb⟩
  have oh29 := oh.trans o29
  refine ⟨fun z => ?_, fun z => ?_⟩
  · have hj' : j < n := by omega
    obtain ⟨b1, f1, rfl, h1, pd, nd, cd, pk, nk, ck, l1, -, -, -, -, -, -, td, tk, -⟩ := (T.old oh29).at hj'
    obtain ⟨b2, f2, rfl, h2, qd, md, dd, qk, mk, dk, l2, -, -, -, -, -, -, ud, uk, -⟩ := (U.old oh29).at hj'
    refine ⟨_, _, _, ld1_at (c0 o29) rfl, derefP_at ⟨by omega, z, _, _, _, _, _, _, _, _, _, _, by rw [Int.toNat_natCast]; exact l1, _, _, _, ld1_at (c1 o29) rfl, derefP_at ⟨by omega, z, _, _, _, _, _, _, _, _, _, _, by rw [Int.toNat_natCast]; exact l2, (same23Spec kk td tk ud uk).mono ?_⟩⟩⟩
    rintro _ g49 ⟨⟨rfl, k⟩ | ⟨rfl, k⟩, o49⟩
    · refine .inl ⟨rfl, fun i e => ?_⟩
      have e := i64w e (by omega) (by omega)
      exact ⟨_, by omega, j + 1, by rw [e]; rfl, hj', rfl, o29.trans o49, by rw [List.take_succ_eq_append_getElem h1, List.take_succ_eq_append_getElem h2, hb, k]⟩
    · refine .inr ⟨rfl, no (o29.trans o49) fun e => k ?_⟩
      have := congrArg (fun o : ScrP => o.ops[j]?) e
      simp only [List.getElem?_eq_getElem h1, List.getElem?_eq_getElem h2, Option.some.injEq] at this
      exact this
  · refine ⟨.inl ⟨rfl, ?_⟩, oh29⟩
    rw [List.take_of_length_le (by omega), List.take_of_length_le (by omega)] at hb
    obtain ⟨a1, a2⟩ := s
    obtain ⟨b1, b2⟩ := t
    simp only at z1 hb
    subst z1 hb
    rfl
theorem copyScr (kk : KScr23 K) {s : ScrP} {p : Option Addr} {n c : Nat} (T : Ops h p n s.ops) :
    Wf Tryz.prog K 6 [.agg #[.int .i64 s.secs, .slice p n c]] h fun v h' => (∃ p' c', v = .agg #[.int .i64 s.secs, .slice p' n c'] ∧ Ops h' p' n s.ops) ∧ Old h h' := by
  have hn := T.2.1
  have hre : reachBytes = 140737488351232 := rfl
  have hrm : roomMax = 140737488355328 := rfl
  have hAm := T.2.2.1
  refine vc_aquiferref23_Copy kk.copy _ _ _ _ h _ fun g0 e0 g1 e1 g2 e2 => ?_
  have o0 := old_of_alloc e0
  have o1 := old_of_alloc e1
  have o2 := old_of_alloc e2
  have n0 := next_of_alloc e0
  have n1 := next_of_alloc e1
  have n2 := next_of_alloc e2
  have oh := (o0.trans o1).trans o2
  have c0 : ∀ {g : AH}, Old g1 g → g.get h.next = _ := fun o => ((o1.trans o).2 _ (by omega)).trans (get_of_alloc e0)
  have c1 : ∀ {g : AH}, Old g1 g → g.get g0.next = _ := fun o => (o.2 _ (by omega)).trans (get_of_alloc e1)
  refine ⟨_, _, _, ld1_at (c0 o2) rfl, fun p10 n11 c12 i13 k g => ∃ j : Nat, i13 = j ∧ j ≤ n ∧ n - j = k ∧ n11 = j ∧ OpsG g1.next g p10 n11 c12 (s.ops.take j) ∧ Old g1 g, ⟨_, 0, rfl, Nat.zero_le _, rfl, rfl, OpsG.lit e2 (Nat.le_refl _), o2⟩, ?_⟩
  rintro k7 g8 p10 n11 c12 i13 ⟨j, rfl, hj, rfl, rfl, RG, o8⟩
  have oh8 := (o0.trans o1).trans o8
  refine ⟨fun z => ?_, fun z => ?_⟩
  · have hj' : n11 < n := by omega
    obtain ⟨b1, f1, rfl, h1, pd, nd, cd, pk, nk, ck, l1, -, -, -, -, -, -, td, tk, s1, s2, -⟩ := (T.old oh8).at hj'
    have htk : s.ops.take (n11 + 1) = s.ops.take n11 ++ [s.ops[n11]] := List.take_succ_eq_append_getElem h1
    generalize s.ops[n11] = o at *
    refine derefP_at ⟨by omega, z, _, _, _, _, _, _, _, _, _, _, by rw [Int.toNat_natCast]; exact l1, fun g26 e26 => ?_⟩
    obtain ⟨g27, k27, n27, o27, v27⟩ := put_new e26 (vs := [.int .i64 o.kind, .string o.name, .string o.to, .int .i64 o.n, .slice pd nd cd, .slice pk nk ck]) rfl
    have w27 := v27 [] (fun c hc => by cases hc)
    refine ⟨rfl, g27, k27, fun g28 e28 => ?_⟩
    have o28 := old_of_alloc e28
    have n28 := next_of_alloc e28
    have w28 := w27.old o28
    have td28 := (td.old o27).old o28
    refine ⟨_, _, _, ld1_at w28.1 rfl, ?_⟩
    obtain ⟨p32, c34, g35, k35, G35, o35, -, -⟩ := (Grow.lit (elem := 5) (sz := 1) (n := 0) e28 rfl (Nat.le_refl _)).append eU8 (by omega) (x := .slice pd nd cd) (m := nd) rfl (td28.2.2.2.1.firstC td28.1) td28.2.2.2.1.1 (by have := td.2.2.1; omega) (by have := td.2.2.1; omega) ⟨_, eU8.1⟩
    rw [List.nil_append, Nat.zero_add] at G35
    have f35 : ∀ b, b < g27.next → g35.get b = g28.get b := fun b hb => o35.2 b hb
    have w35 : g35.get g8.next = _ := (f35 _ w27.2.1).trans w28.1
    refine ⟨p32, 0 + nd, c34, g35, k35, _, st1_of w35 (by simp), fun g37 e37 => ?_⟩
    generalize e36 : g35.set _ _ = g36 at *
    have nr36 : Near g8.next g35 g36 := by rw [← e36]; exact near_set _ _ _
    have w36 : g36.get g8.next = some (.cells [.int .i64 o.kind, .string o.name, .string o.to, .int .i64 o.n, .slice p32 (0 + nd) c34, .slice pk nk ck] 43 false) := by rw [← e36]; exact get_set_self _ _ _
    have o37 := old_of_alloc e37
    have n37 := next_of_alloc e37
    have w37 : g37.get g8.next = _ := (o37.2 _ (by have := o35.1; have := w27.2.1; rw [nr36.1]; omega)).trans w36
    have l27 := w27.2.1
    -- what of the given op is as it was
    have old37 : Old g8 g37 := ⟨by have := o27.1; have := o35.1; have := o37.1; rw [nr36.1] at this; omega, fun b hb => by rw [o37.2 b (by have := o27.1; have := o35.1; rw [nr36.1]; omega), nr36.2 b (by omega), f35 b (by have := o27.1; omega), o28.2 b (by have := o27.1; omega), o27.2 b hb]⟩
    have tk37 := tk.old old37
    refine ⟨_, _, _, ld1_at w37 rfl, ?_⟩
    obtain ⟨p41, c43, g44, k44, G44, o44, -, -⟩ := (Grow.lit (elem := 4) (sz := 1) (n := 0) e37 rfl (Nat.le_refl _)).append eBool (by omega) (x := .slice pk nk ck) (m := nk) rfl (tk37.2.2.2.firstC tk37.1) tk37.2.2.2.1 (by have := tk.2.2.1; omega) (by have := tk.2.2.1; omega) ⟨_, eBool.1⟩
    rw [List.nil_append, Nat.zero_add] at G44
    have f44 : ∀ b, b < g36.next → g44.get b = g37.get b := fun b hb => o44.2 b hb
    have l36 : g8.next < g36.next := by have := o35.1; rw [nr36.1]; omega
    have w44 : g44.get g8.next = _ := (f44 _ l36).trans w37
    refine ⟨p41, 0 + nk, c43, g44, k44, _, st1_of w44 (by simp), ?_⟩
    generalize e45 : g44.set _ _ = g45 at *
    have nr45 : Near g8.next g44 g45 := by rw [← e45]; exact near_set _ _ _
    have w45 : g45.get g8.next = some (.cells [.int .i64 o.kind, .string o.name, .string o.to, .int .i64 o.n, .slice p32 (0 + nd) c34, .slice p41 (0 + nk) c43] 43 false) := by rw [← e45]; exact get_set_self _ _ _
    have l44 : g36.next ≤ g44.next := by have := o44.1; omega
    have o45 : Old g8 g45 := ⟨by rw [nr45.1]; have := old37.1; omega, fun b hb => by rw [nr45.2 b (by omega), f44 b (by omega), old37.2 b hb]⟩
    refine ⟨_, _, _, _, _, _, _, _, _, _, ldN_all w45 rfl, fun g56 e56 => ?_⟩
    -- the new texts
    have dfix : ∀ a, p32 = some a → g27.next ≤ a.block ∧ a.block < g35.next ∧ a.block ≠ g8.next := fun a ha => by
      obtain ⟨q1, q2⟩ := G35.block ha
      exact ⟨q1, q2, by omega⟩
    have D45 : Text g45 p32 (0 + nd) o.data := by
      have h35 : Text g35 p32 nd o.data := ⟨G35.form, td.2.1, td.2.2.1, G35.shows, td.2.2.2.2⟩
      rw [Nat.zero_add]
      refine h35.kept (by rw [nr45.1]; have := nr36.1; omega) fun a ha => ?_
      obtain ⟨q1, q2, q3⟩ := dfix a ha
      rw [nr45.2 _ q3, f44 _ (by rw [nr36.1]; exact q2), o37.2 _ (by rw [nr36.1]; exact q2), nr36.2 _ q3]
    have kfix : ∀ a, p41 = some a → g36.next ≤ a.block ∧ a.block < g44.next ∧ a.block ≠ g8.next := fun a ha => by
      obtain ⟨q1, q2⟩ := G44.block ha
      exact ⟨q1, q2, by omega⟩
    have K45 : Bools g45 p41 (0 + nk) o.keep := by
      have h44 : Bools g44 p41 nk o.keep := ⟨G44.form, tk.2.1, tk.2.2.1, G44.shows⟩
      rw [Nat.zero_add]
      refine h44.kept (by rw [nr45.1]; exact Nat.le_refl _) fun a ha => ?_
      rw [nr45.2 _ (kfix a ha).2.2]
    have RG45 := RG.old o45
    have ap10 : ∀ b, g8.next ≤ b → apart p10 b := fun b hb => by
      obtain ⟨-, cells, G, -⟩ := RG
      rcases G.2 with ⟨rfl, -⟩ | ⟨b', rfl, q3, q4, -⟩
      · exact trivial
      · show b' ≠ b; omega
    obtain ⟨p57, c59, g60, k60, RG60, o60, f60⟩ := RG45.push (by have := o8.1; have := o45.1; omega) (o := o) ⟨_, _, _, _, _, _, rfl, D45, K45, s1, s2, fun a ha => ⟨by have := (dfix a ha).1; have := o27.1; have := o8.1; omega, by have := (dfix a ha).2.1; rw [nr45.1]; have := nr36.1; omega, ap10 _ (by have := (dfix a ha).1; have := o27.1; omega)⟩, fun a ha => ⟨by have := (kfix a ha).1; have := o8.1; omega, by have := (kfix a ha).2.1; rw [nr45.1]; omega, ap10 _ (by have := (kfix a ha).1; omega)⟩⟩ e56 (by omega)
    refine ⟨p57, _, c59, g60, k60, fun i61 e61 => ?_⟩
    have e61 := i64w e61 (by omega) (by omega)
    refine ⟨_, by omega, n11 + 1, by rw [e61]; rfl, hj', rfl, rfl, by rw [htk]; exact RG60, ⟨?_, fun b hb => ?_⟩⟩
    · have := o8.1; have := o45.1; have := o60.1; omega
    · rw [o60.2 b hb, o45.2 b (by have := o8.1; omega), o8.2 b hb]
  · obtain rfl : n11 = n := by omega
    rw [List.take_of_length_le (by omega)] at RG
    have w8 := c1 o8
    refine ⟨_, ld1_at (c0 o8) rfl, rfl, _, stN_all w8 rfl, _, _, _, _, ldN_all (get_set_self _ _ _) rfl, ⟨_, _, rfl, ?_⟩, ⟨oh8.1, fun b hb => by rw [get_set_ne (by omega)]; exact oh8.2 b hb⟩⟩
    exact OpsG.ops (OpsG.kept RG (Nat.le_refl _) fun b hb _ => get_set_ne (by omega)) hAm
end
end Go.Am
