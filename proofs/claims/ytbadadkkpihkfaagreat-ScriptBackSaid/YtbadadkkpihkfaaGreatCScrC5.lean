/-
  THE SCRIPT OF BYTES: an op's text read.
-/
import Derived.Test.YtbadadkkpihkfaaGreatCScrC4
set_option linter.unusedVariables false
set_option linter.unusedSimpArgs false
set_option maxRecDepth 100000
namespace Go.Am
open Go.Proofs
theorem RowsG.text {lim : Nat} {g : AH} {p : Option Addr} {n c : Nat} {ts : List Bs} (R : RowsG lim g p n c ts) {i : Nat} (hi : i < ts.length) : ∃ b, p = some ⟨b, 0, none⟩ ∧ lim ≤ b ∧ b < g.next ∧ ∃ p' n' c', ld1 g b i = some (.slice p' n' c') ∧ TextN lim g p' n' c' ts[i] := by
  obtain ⟨h1, cells, h2, h3⟩ := R
  obtain ⟨p', n', c', q1, q2, q3, q4⟩ := h3 i hi
  rcases h2.2 with ⟨-, z, -⟩ | ⟨b, rfl, r1, r2, r3, r4⟩
  · omega
  · exact ⟨b, rfl, r1, r2, p', n', c', by rw [ld1_of r3]; exact q1, q2, q3, fun a ha => ⟨(q4 a ha).1, (q4 a ha).2.1⟩⟩
structure KRead (K : Xs) : Prop where
  scr : KScr K
  split : K 23 = none
  length : K 34 = none
  get : K 24 = none
  opR : K 25 = none
  read : K 13 = none
  equal : K 26 = none
def zOp : List Value := [.int .i64 0, .string (ByteArray.mk #[]), .string (ByteArray.mk #[]), .int .i64 0, .slice none 0 0, .slice none 0 0]
/-- What reading an op's text answers. -/
def OpReadQ (lim : Nat) (data : Bs) (v : Value) (g : AH) : Prop :=
  (∃ o pd nd cd pk nk ck, opOf data = some o ∧ v = .tuple #[.agg #[.int .i64 o.kind, .string o.name, .string o.to, .int .i64 o.n, .slice pd nd cd, .slice pk nk ck], .int .i64 0] ∧ Text g pd nd o.data ∧ Bools g pk nk o.keep ∧ o.name.size ≤ reachBytes ∧ o.to.size ≤ reachBytes ∧ (∀ a, pd = some a → lim ≤ a.block ∧ a.block < g.next) ∧ ∀ a, pk = some a → lim ≤ a.block ∧ a.block < g.next) ∨
  ((∀ o, OpOk o → opB o ≠ data) ∧ v = .tuple #[.agg zOp.toArray, .int .i64 231])
theorem strOf_size (b : Bs) : (strOf b).size = b.length := by
  show (b.map UInt8.ofNat).toArray.size = b.length
  simp
theorem opOf_of {data : Bs} {x y z : Nat} {a b d k : Bs} (h : splitB data = some [[x, y, z], a, b, d, k]) : opOf data = some ⟨x, strOf a, strOf b, nOf (y + 256 * z), d, keepOf k⟩ := by
  unfold opOf
  rw [h]
theorem op_split {o : OpP} {data : Bs} (k : OpOk o) (h : opB o = data) : splitB data = some (opTs o) := by rw [← h, opB, split_join (by simp [opTs]) (opTs_lt k)]
theorem dec12 (x y z : Nat) : dec [1, 2] [x, y, z] = [x, y + 256 * z] := by simp [dec, deB]
theorem len3 {t : Bs} (h : t.length = 3) : ∃ x y z, t = [x, y, z] := by
  match t, h with
  | [x, y, z], _ => exact ⟨x, y, z, rfl⟩
theorem len5 {ts : List Bs} (h : ts.length = 5) : ∃ a b c d e, ts = [a, b, c, d, e] := by
  match ts, h with
  | [a, b, c, d, e], _ => exact ⟨a, b, c, d, e, rfl⟩
theorem keepOf_len (b : Bs) : (keepOf b).length = b.length := by simp [keepOf]
theorem keepOf_at {b : Bs} {j : Nat} (hj : j < b.length) (hj' : j < (keepOf b).length) : (keepOf b)[j] = decide (0 < b[j]) := by simp [keepOf]
section
variable {K : Xs} {h : AH}
theorem opReadSpec (kk : KRead K) {p : Option Addr} {n c : Nat} {data : Bs} (T : Text h p n data) (C : CutP Tryz.prog h 5 p n c) (hb : ∀ a, p = some a → a.block < h.next) :
    Wf Tryz.prog K 25 [.slice p n c] h fun v h' => OpReadQ h.next data v h' ∧ Old h h' := by
  have hre : reachBytes = 140737488351232 := rfl
  have hrm : roomMax = 140737488355328 := rfl
  have hdl := T.2.1
  have hdm := T.2.2.1
  refine vc_script_opRead kk.opR _ _ _ h _ fun g0 e0 => ?_
  have o0 := old_of_alloc e0
  have n0 := next_of_alloc e0
  refine (splitSpec2 kk.split kk.length (T.old o0) (C.old o0 hb) fun a ha => by have := hb a ha; omega).mono ?_
  rintro _ g2 ⟨hsp, o2⟩
  have oh2 := o0.trans o2
  have c0 : g2.get h.next = some (.cells zOp 43 false) := (o2.2 _ (by omega)).trans (get_of_alloc e0)
  -- an error is answered
  have out : ∀ {g : AH}, Old h g → g.get h.next = some (.cells zOp 43 false) → (∀ o, OpOk o → opB o ≠ data) → (List.length zOp = 6) ∧ ∃ g' : AH, stN g h.next 0 zOp = some g' ∧ ∃ (i : Int) (s t : ByteArray) (j : Int) (p : Option Addr) (n c : Nat) (q : Option Addr) (m d : Nat), ldN g' h.next 0 6 = some [.int .i64 i, .string s, .string t, .int .i64 j, .slice p n c, .slice q m d] ∧ OpReadQ h.next data (.tuple #[.agg #[.int .i64 i, .string s, .string t, .int .i64 j, .slice p n c, .slice q m d], .int .i64 231]) g' ∧ Old h g' := fun {g} o w z =>
    ⟨rfl, _, stN_all w rfl, _, _, _, _, _, _, _, _, _, _, ldN_all (get_set_self _ _ _) rfl, .inr ⟨z, rfl⟩, ⟨o.1, fun b hb => by rw [get_set_ne (by omega)]; exact o.2 b hb⟩⟩
  cases hts : splitB data with
  | none =>
    rw [hts] at hsp
    obtain rfl : _ = _ := hsp
    exact ⟨_, _, _, _, rfl, fun z => absurd z (by decide), fun _ => out oh2 c0 fun o k e => by rw [op_split k e] at hts; cases hts⟩
  | some ts =>
    rw [hts] at hsp
    obtain ⟨p3, c5, rfl, RG⟩ := hsp
    refine ⟨_, _, _, _, rfl, fun _ => ⟨fun h5 g7 e7 => ?_, fun h5 => out oh2 c0 fun o k e => h5 (by rw [op_split k e] at hts; cases hts; rfl)⟩, fun z => absurd rfl z⟩
    obtain ⟨t0, t1, t2, t3, t4, rfl⟩ := len5 (show ts.length = 5 by omega)
    have o7 := old_of_alloc e7
    have n7 := next_of_alloc e7
    have oh7 := oh2.trans o7
    obtain ⟨b3, rfl, lb, ub, p0, m0, d0, l0, T0⟩ := RG.text (i := 0) (by simp)
    obtain ⟨_, e1, -, -, p1, m1, d1, l1, T1⟩ := RG.text (i := 1) (by simp)
    cases e1
    obtain ⟨_, e2, -, -, p2, m2, d2, l2, T2⟩ := RG.text (i := 2) (by simp)
    cases e2
    obtain ⟨_, e3, -, -, p3', m3, d3, l3, T3⟩ := RG.text (i := 3) (by simp)
    cases e3
    obtain ⟨_, e4, -, -, p4, m4, d4, l4, T4⟩ := RG.text (i := 4) (by simp)
    cases e4
    simp only [List.getElem_cons_zero, List.getElem_cons_succ] at T0 T1 T2 T3 T4
    have m : ∀ {g : AH}, Old g2 g → ∀ {i : Nat} {v : Value}, ld1 g2 b3 i = some v → ld1 g b3 (0 + i) = some v := fun {g} o {i} {v} q => by rw [Nat.zero_add, ← q]; unfold ld1; rw [o.2 b3 ub]
    have S7 : Shows g7 (some ⟨g2.next, 0, none⟩) 2 1 (natC .i64 [1, 2]) := shows_new (cs := natC .i64 [1, 2]) e7 rfl
    have c7 : g7.get h.next = some (.cells zOp 43 false) := (o7.2 _ (by have := o2.1; omega)).trans c0
    refine derefP_at ⟨by decide, by omega, p0, m0, d0, m o7 l0, ?_⟩
    have T0' := T0.old o7
    by_cases h3 : m0 = 3
    rotate_left
    · refine (fieldGetBad kk.get kk.scr.room S7 (by decide) (by decide) (by simpa using h3)).mono ?_
      rintro _ _ ⟨rfl, rfl⟩
      refine ⟨_, _, _, _, rfl, fun z => absurd z (by decide), fun _ => out oh7 c7 fun o k e => ?_⟩
      rw [op_split k e] at hts
      have h1 := T0.1.2.1
      simp only [opTs, Option.some.injEq, List.cons.injEq] at hts
      rw [← hts.1, headB_len] at h1
      exact h3 h1
    subst h3
    obtain ⟨x, y, z, rfl⟩ := len3 T0.1.2.1.symm
    obtain ⟨b0, off0, rfl⟩ : ∃ b off, p0 = some ⟨b, off, none⟩ := by
      rcases T0.1.2.2.2.1.2 with q | ⟨b, off, al, e, ro, q, -⟩
      · omega
      · exact ⟨b, off, q⟩
    have C0 : CutOk Tryz.prog g7 5 b0 3 d0 := by
      rcases T0'.2.1 with ⟨q, -⟩ | ⟨b, off, q, k⟩
      · cases q
      · cases q; exact k
    refine (fieldGet kk.get kk.scr.room S7 T0'.1.2.2.2.1 (T0'.2.2 _ rfl).2 C0 (by decide) (by decide) T0'.1.2.2.2.2 rfl).mono ?_
    rintro _ g14 ⟨⟨b15, rfl, q15, S15⟩, o14⟩
    rw [dec12] at S15
    have o214 := o7.trans o14
    have oh14 := oh2.trans o214
    have hx : x < 256 := T0.1.2.2.2.2 x (by simp)
    have hy : y < 256 := T0.1.2.2.2.2 y (by simp)
    have hz : z < 256 := T0.1.2.2.2.2 z (by simp)
    obtain ⟨bq, oq, eq, h0⟩ := S15.get (i := 0) (by decide)
    cases eq
    obtain ⟨bq, oq, eq, h1⟩ := S15.get (i := 1) (by decide)
    cases eq
    have l15 : b15 < g14.next := by
      rcases S15.2 with q | ⟨b5, off5, al, e5, ro, hp5, hb5, -⟩
      · simp at q
      · cases hp5; exact hb5
    have opq := opOf_of hts
    refine ⟨_, _, _, _, rfl, fun _ => derefP_at ⟨by decide, by decide, _, h0, fun i22 e22 => derefP_at ⟨by decide, by omega, _, _, _, m o214 l1, _, convSb (T1.1.old o214), derefP_at ⟨by decide, by omega, _, _, _, m o214 l2, _, convSb (T2.1.old o214), derefP_at ⟨by decide, by omega, _, _, _, m o214 l3, fun g40 e40 => ?_⟩⟩⟩⟩, fun y => absurd rfl y⟩
    have e22 := i64w e22 (by omega) (by omega)
    subst e22
    obtain ⟨g41, k41, n41, o41, v41⟩ := put_new e40 (vs := [.int .i64 (x : Int), .string (strOf t1), .string (strOf t2), .int .i64 (-1), .slice p3' m3 d3, .slice none 0 0]) rfl
    have w41 := (v41 [] (fun c hc => by cases hc)).1
    have o241 := o214.trans o41
    have oh41 := oh2.trans o241
    have c41 : g41.get h.next = some (.cells zOp 43 false) := (o241.2 _ (by have := o2.1; omega)).trans c0
    have h1' : ld1 g41 b15 (0 + 1) = some (.int .u64 ((y + 256 * z : Nat) : Int)) := by
      have q : ld1 g14 b15 (0 + 1) = some (.int .u64 ((y + 256 * z : Nat) : Int)) := h1
      rw [← q]; unfold ld1; rw [o41.2 b15 l15]
    have kb := T4.1.2.1
    refine ⟨rfl, g41, k41, derefP_at ⟨by decide, by decide, _, h1', fun hN => ?_, fun hN => derefP_at ⟨by decide, by decide, _, h1', fun i126 e126 => ⟨_, st1_of w41 (by simp), ?_⟩⟩⟩⟩
    · have hnO : nOf (y + 256 * z) = -1 := by unfold nOf; rw [if_pos (by omega)]
      generalize hL : g14.next = lb' at *
      have n441 : ∀ b, b < lb' → g41.get b = g41.get b := fun b _ => rfl
      have o44 : Old g2 g41 := o241
      have ln : lb' < g41.next := by omega
      have w44 : g41.get lb' = some (.cells [.int .i64 (x : Int), .string (strOf t1), .string (strOf t2), .int .i64 (nOf (y + 256 * z)), .slice p3' m3 d3, .slice none 0 0] 43 false) := by rw [hnO]; exact w41
      have l2b : g2.next ≤ lb' := by rw [← hL]; exact o214.1
      clear w41 k41 v41 e40 n441
      generalize g41 = g44 at *
      have oh44 := oh2.trans o44
      have c44 : g44.get h.next = some (.cells zOp 43 false) := (o44.2 _ (by have := o2.1; omega)).trans c0
      have bad : (∀ k : List Bool, k.length ≤ 64 → keepB k ≠ t4) → ∀ o, OpOk o → opB o ≠ data := fun hk o k e => by
        rw [op_split k e] at hts
        simp only [opTs, Option.some.injEq, List.cons.injEq] at hts
        exact hk o.keep k.keepL hts.2.2.2.2.1
      refine derefP_at ⟨by decide, by omega, _, _, _, m o44 l4, fun h64 => out oh44 c44 (bad fun k hk e => by rw [← e, keepB_len] at kb; omega), fun h64 => derefP_at ⟨by decide, by omega, _, _, _, m o44 l4, ?_⟩⟩
      refine ⟨fun i k g => ∃ j : Nat, i = j ∧ j ≤ m4 ∧ m4 - j = k ∧ Old g2 g ∧ lb' < g.next ∧ (∀ u (hu : u < t4.length), u < j → t4[u] ≤ 1) ∧ ∃ p5 n5 c5, g.get lb' = some (.cells [.int .i64 (x : Int), .string (strOf t1), .string (strOf t2), .int .i64 (nOf (y + 256 * z)), .slice p3' m3 d3, .slice p5 n5 c5] 43 false) ∧ n5 = j ∧ Grow (lb' + 1) g 4 1 p5 n5 c5 (bolC ((keepOf t4).take j)), ⟨_, 0, rfl, Nat.zero_le _, rfl, o44, ln, fun u hu q => absurd q (Nat.not_lt_zero _), none, 0, 0, w44, rfl, Grow.nil _ _ _ _⟩, ?_⟩
      rintro k67 g68 i70 ⟨j, rfl, hj, rfl, o68, ln68, hle, p5, n5, c5, w68, rfl, G68⟩
      have oh68 := oh2.trans o68
      have c68 : g68.get h.next = some (.cells zOp 43 false) := (o68.2 _ (by have := o2.1; omega)).trans c0
      refine ⟨fun q => ?_, fun q => ?_⟩
      · have hj' : n5 < t4.length := by omega
        obtain ⟨bk, ok, rfl, hlk⟩ := (T4.1.old o68).2.2.2.1.get (i := n5) (by omega)
        rw [natC_get hj'] at hlk
        have hkt : (keepOf t4).take (n5 + 1) = (keepOf t4).take n5 ++ [decide (0 < t4[n5])] := by
          rw [List.take_succ_eq_append_getElem (by rw [keepOf_len]; exact hj'), keepOf_at hj']
        refine derefP_at ⟨by omega, q, _, by rw [Int.toNat_natCast, Nat.mul_one]; exact hlk, fun h1 => out oh68 c68 (bad fun k hk e => ?_), fun h1 => ⟨_, _, _, ld1_at w68 rfl, fun q1 g88 e88 => ?_, fun q1 g88 e88 => ?_⟩⟩
        · have : t4[n5] ∈ keepB k := by rw [e]; exact List.getElem_mem hj'
          have := keepB_le this
          omega
        all_goals
          have e88 : g88 = g68.alloc (.cells (bolC [decide (0 < t4[n5])]) 4 false) := by
            rw [e88]
            first
              | (rw [decide_eq_true (show 0 < t4[n5] by omega)]; rfl)
              | (rw [decide_eq_false (show ¬ 0 < t4[n5] by omega)]; rfl)
          obtain ⟨p89, c91, g92, k92, G92, o92, f92, -⟩ := G68.push eBool (by omega) (m := 1) (ns := bolC [decide (0 < t4[n5])]) e88 rfl (by omega) (by omega)
          have w92 : g92.get lb' = _ := (o92.2 _ (by omega)).trans w68
          refine ⟨p89, _, c91, g92, k92, _, st1_of w92 (by simp), fun i94 e94 => ?_⟩
          have e94 := i64w e94 (by omega) (by omega)
          refine ⟨_, by omega, n5 + 1, by rw [e94]; rfl, by omega, rfl, ⟨by have := o68.1; have := o92.1; show g2.next ≤ g92.next; omega, fun b hb => by rw [get_set_ne (by omega), o92.2 b (by omega), o68.2 b hb]⟩, by have := o92.1; show lb' < g92.next; omega, fun u hu hu2 => ?_, _, _, _, get_set_self _ _ _, rfl, ?_⟩
          · by_cases hun : u = n5
            · subst hun; omega
            · exact hle u hu (by omega)
          · rw [hkt, bolC_app]
            exact ⟨G92.1, G92.2.imp id fun ⟨b, q2, q3, q4, q5, q6⟩ => ⟨b, q2, q3, q4, by rw [get_set_ne (by omega)]; exact q5, q6⟩⟩
      · obtain rfl : n5 = m4 := by omega
        rw [List.take_of_length_le (by rw [keepOf_len]; omega)] at G68
        refine ⟨_, _, _, _, _, _, _, _, _, _, ldN_all w68 rfl, rfl, _, stN_all c68 rfl, _, _, _, _, _, _, _, _, _, _, ldN_all (get_set_self _ _ _) rfl, ?_⟩
        have nx : ∀ o : AObj, (g68.set h.next o).next = g68.next := fun o => rfl
        refine ⟨.inl ⟨_, p3', m3, d3, p5, n5, c5, opq, rfl, ?_, ?_, ?_, ?_, fun a ha => ?_, fun a ha => ?_⟩, ⟨oh68.1, fun b hb => by rw [get_set_ne (by omega)]; exact oh68.2 b hb⟩⟩
        · exact (T3.1.old o68).kept (Nat.le_refl _) fun a ha => get_set_ne (by have := (T3.2.2 a ha).1; omega)
        · refine Bools.kept ⟨G68.form, by rw [keepOf_len]; omega, by omega, G68.shows⟩ (Nat.le_refl _) fun a ha => get_set_ne (by have := (G68.block ha).1; have := oh2.1; omega)
        · rw [strOf_size]; have := T1.1.2.1; have := T1.1.2.2.1; omega
        · rw [strOf_size]; have := T2.1.2.1; have := T2.1.2.2.1; omega
        · have := T3.2.2 a ha; have := o68.1; rw [nx]; omega
        · have := G68.block ha; have := oh2.1; rw [nx]; omega
    · have e126 := i64w e126 (by omega) (by omega)
      subst e126
      have hnO : nOf (y + 256 * z) = ((y + 256 * z : Nat) : Int) := by unfold nOf; rw [if_neg (by omega)]
      generalize hL : g14.next = lb' at *
      generalize hG : g41.set _ _ = g44
      have nr : Near lb' g41 g44 := by rw [← hG]; exact near_set _ _ _
      have l2b : g2.next ≤ lb' := by rw [← hL]; exact o214.1
      have o44 : Old g2 g44 := o241.near nr l2b
      have ln : lb' < g44.next := by rw [nr.1]; omega
      have w44 : g44.get lb' = some (.cells [.int .i64 (x : Int), .string (strOf t1), .string (strOf t2), .int .i64 (nOf (y + 256 * z)), .slice p3' m3 d3, .slice none 0 0] 43 false) := by rw [hnO, ← hG]; exact get_set_self _ _ _
      clear w41 k41 v41 e40
      have oh44 := oh2.trans o44
      have c44 : g44.get h.next = some (.cells zOp 43 false) := (o44.2 _ (by have := o2.1; omega)).trans c0
      have bad : (∀ k : List Bool, k.length ≤ 64 → keepB k ≠ t4) → ∀ o, OpOk o → opB o ≠ data := fun hk o k e => by
        rw [op_split k e] at hts
        simp only [opTs, Option.some.injEq, List.cons.injEq] at hts
        exact hk o.keep k.keepL hts.2.2.2.2.1
      refine derefP_at ⟨by decide, by omega, _, _, _, m o44 l4, fun h64 => out oh44 c44 (bad fun k hk e => by rw [← e, keepB_len] at kb; omega), fun h64 => derefP_at ⟨by decide, by omega, _, _, _, m o44 l4, ?_⟩⟩
      refine ⟨fun i k g => ∃ j : Nat, i = j ∧ j ≤ m4 ∧ m4 - j = k ∧ Old g2 g ∧ lb' < g.next ∧ (∀ u (hu : u < t4.length), u < j → t4[u] ≤ 1) ∧ ∃ p5 n5 c5, g.get lb' = some (.cells [.int .i64 (x : Int), .string (strOf t1), .string (strOf t2), .int .i64 (nOf (y + 256 * z)), .slice p3' m3 d3, .slice p5 n5 c5] 43 false) ∧ n5 = j ∧ Grow (lb' + 1) g 4 1 p5 n5 c5 (bolC ((keepOf t4).take j)), ⟨_, 0, rfl, Nat.zero_le _, rfl, o44, ln, fun u hu q => absurd q (Nat.not_lt_zero _), none, 0, 0, w44, rfl, Grow.nil _ _ _ _⟩, ?_⟩
      rintro k67 g68 i70 ⟨j, rfl, hj, rfl, o68, ln68, hle, p5, n5, c5, w68, rfl, G68⟩
      have oh68 := oh2.trans o68
      have c68 : g68.get h.next = some (.cells zOp 43 false) := (o68.2 _ (by have := o2.1; omega)).trans c0
      refine ⟨fun q => ?_, fun q => ?_⟩
      · have hj' : n5 < t4.length := by omega
        obtain ⟨bk, ok, rfl, hlk⟩ := (T4.1.old o68).2.2.2.1.get (i := n5) (by omega)
        rw [natC_get hj'] at hlk
        have hkt : (keepOf t4).take (n5 + 1) = (keepOf t4).take n5 ++ [decide (0 < t4[n5])] := by
          rw [List.take_succ_eq_append_getElem (by rw [keepOf_len]; exact hj'), keepOf_at hj']
        refine derefP_at ⟨by omega, q, _, by rw [Int.toNat_natCast, Nat.mul_one]; exact hlk, fun h1 => out oh68 c68 (bad fun k hk e => ?_), fun h1 => ⟨_, _, _, ld1_at w68 rfl, fun q1 g88 e88 => ?_, fun q1 g88 e88 => ?_⟩⟩
        · have : t4[n5] ∈ keepB k := by rw [e]; exact List.getElem_mem hj'
          have := keepB_le this
          omega
        all_goals
          have e88 : g88 = g68.alloc (.cells (bolC [decide (0 < t4[n5])]) 4 false) := by
            rw [e88]
            first
              | (rw [decide_eq_true (show 0 < t4[n5] by omega)]; rfl)
              | (rw [decide_eq_false (show ¬ 0 < t4[n5] by omega)]; rfl)
          obtain ⟨p89, c91, g92, k92, G92, o92, f92, -⟩ := G68.push eBool (by omega) (m := 1) (ns := bolC [decide (0 < t4[n5])]) e88 rfl (by omega) (by omega)
          have w92 : g92.get lb' = _ := (o92.2 _ (by omega)).trans w68
          refine ⟨p89, _, c91, g92, k92, _, st1_of w92 (by simp), fun i94 e94 => ?_⟩
          have e94 := i64w e94 (by omega) (by omega)
          refine ⟨_, by omega, n5 + 1, by rw [e94]; rfl, by omega, rfl, ⟨by have := o68.1; have := o92.1; show g2.next ≤ g92.next; omega, fun b hb => by rw [get_set_ne (by omega), o92.2 b (by omega), o68.2 b hb]⟩, by have := o92.1; show lb' < g92.next; omega, fun u hu hu2 => ?_, _, _, _, get_set_self _ _ _, rfl, ?_⟩
          · by_cases hun : u = n5
            · subst hun; omega
            · exact hle u hu (by omega)
          · rw [hkt, bolC_app]
            exact ⟨G92.1, G92.2.imp id fun ⟨b, q2, q3, q4, q5, q6⟩ => ⟨b, q2, q3, q4, by rw [get_set_ne (by omega)]; exact q5, q6⟩⟩
      · obtain rfl : n5 = m4 := by omega
        rw [List.take_of_length_le (by rw [keepOf_len]; omega)] at G68
        refine ⟨_, _, _, _, _, _, _, _, _, _, ldN_all w68 rfl, rfl, _, stN_all c68 rfl, _, _, _, _, _, _, _, _, _, _, ldN_all (get_set_self _ _ _) rfl, ?_⟩
        have nx : ∀ o : AObj, (g68.set h.next o).next = g68.next := fun o => rfl
        refine ⟨.inl ⟨_, p3', m3, d3, p5, n5, c5, opq, rfl, ?_, ?_, ?_, ?_, fun a ha => ?_, fun a ha => ?_⟩, ⟨oh68.1, fun b hb => by rw [get_set_ne (by omega)]; exact oh68.2 b hb⟩⟩
        · exact (T3.1.old o68).kept (Nat.le_refl _) fun a ha => get_set_ne (by have := (T3.2.2 a ha).1; omega)
        · refine Bools.kept ⟨G68.form, by rw [keepOf_len]; omega, by omega, G68.shows⟩ (Nat.le_refl _) fun a ha => get_set_ne (by have := (G68.block ha).1; have := oh2.1; omega)
        · rw [strOf_size]; have := T1.1.2.1; have := T1.1.2.2.1; omega
        · rw [strOf_size]; have := T2.1.2.1; have := T2.1.2.2.1; omega
        · have := T3.2.2 a ha; have := o68.1; rw [nx]; omega
        · have := G68.block ha; have := oh2.1; rw [nx]; omega
end
end Go.Am
