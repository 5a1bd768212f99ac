/-
  THE SCRIPT OF BYTES: the document's.
-/
import Derived.Test.YtbadadkkpihkfaaGreatCScrC6
set_option linter.unusedVariables false
set_option linter.unusedSimpArgs false
set_option maxRecDepth 100000
namespace Go.Am
open Go.Proofs
structure KRead23 (K : Xs) : Prop where
  s23 : KScr23 K
  split : K 27 = none
  value : K 28 = none
  read : K 14 = none
section
variable {K : Xs} {h : AH}
theorem read23Spec (kk : KRead23 K) {p : Option Addr} {n c : Nat} {data : Bs} (T : Text h p n data) (C : CutP Tryz.prog h 5 p n c) (hb : ∀ a, p = some a → a.block < h.next) :
    Wf Tryz.prog K 14 [.slice p n c] h fun v h' => ReadQ data v h' ∧ Old h h' := by
  have hre : reachBytes = 140737488351232 := rfl
  have hrm : roomMax = 140737488355328 := rfl
  refine vc_aquiferref23_Read kk.read _ _ _ h _ fun g0 e0 => ?_
  have o0 := old_of_alloc e0
  have n0 := next_of_alloc e0
  refine (split02 kk.split kk.value (T.old o0) (C.old o0 hb) fun a ha => by have := hb a ha; omega).mono ?_
  rintro _ g2 ⟨hsp, o2⟩
  have oh2 := o0.trans o2
  have c0 : g2.get h.next = some (.cells zScr 24 false) := (o2.2 _ (by omega)).trans (get_of_alloc e0)
  have out : ∀ {g : AH}, Old h g → g.get h.next = some (.cells zScr 24 false) → (∀ s, ¬ ScrIs data s) → (List.length zScr = 2) ∧ ∃ g' : AH, stN g h.next 0 zScr = some g' ∧ ∃ (i : Int) (p : Option Addr) (n c : Nat), ldN g' h.next 0 2 = some [.int .i64 i, .slice p n c] ∧ ReadQ data (.tuple #[.agg #[.int .i64 i, .slice p n c], .int .i64 231]) g' ∧ Old h g' := fun {g} o w z =>
    ⟨rfl, _, stN_all w rfl, _, _, _, _, ldN_all (get_set_self _ _ _) rfl, .inr ⟨z, rfl⟩, ⟨o.1, fun b hb => by rw [get_set_ne (by omega)]; exact o.2 b hb⟩⟩
  cases hts : splitB data with
  | none =>
    rw [hts] at hsp
    obtain rfl : _ = _ := hsp
    exact ⟨_, _, _, _, rfl, fun z => absurd z (by decide), fun _ => out oh2 c0 fun s k => by rw [scr_split k] at hts; cases hts⟩
  | some ts =>
    rw [hts] at hsp
    obtain ⟨p3, c5, rfl, RG⟩ := hsp
    refine ⟨_, _, _, _, rfl, fun _ => ⟨fun h1 => out oh2 c0 fun s k => ?_, fun h1 => ⟨fun h201 => out oh2 c0 fun s k => ?_, fun h201 => ?_⟩⟩, fun z => absurd rfl z⟩
    · rw [scr_split k] at hts; cases hts; simp [scrTs] at h1; omega
    · rw [scr_split k] at hts; cases hts; have := k.1.len; simp [scrTs] at h201; omega
    obtain ⟨t0, ts', rfl⟩ : ∃ t0 ts', ts = t0 :: ts' := by
      cases ts with
      | nil => simp at h1
      | cons a l => exact ⟨a, l, rfl⟩
    have isTs : ∀ s, ScrIs data s → t0 = byB 2 s.secs.toNat ∧ ts' = s.ops.map opB := fun s k => by
      have := hts
      rw [scr_split k] at this
      simp only [scrTs, Option.some.injEq, List.cons.injEq] at this
      exact ⟨this.1.symm, this.2.symm⟩
    have hlen : (t0 :: ts').length = ts'.length + 1 := rfl
    obtain ⟨b3, rfl, lb, ub, p0, m0, d0, l0, T0⟩ := RG.text (i := 0) (by simp)
    simp only [List.getElem_cons_zero] at T0
    have m : ∀ {g : AH}, Old g2 g → ∀ {i : Nat} {v : Value}, ld1 g2 b3 i = some v → ld1 g b3 (0 + i) = some v := fun {g} o {i} {v} q => by rw [Nat.zero_add, ← q]; unfold ld1; rw [o.2 b3 ub]
    have hm0 := T0.1.2.1
    refine derefP_at ⟨by decide, by omega, p0, m0, d0, m (Old.refl _) l0, fun h3 => derefP_at ⟨by decide, by omega, p0, m0, d0, m (Old.refl _) l0, ?_⟩, fun h3 => out oh2 c0 fun s k => h3 (by rw [hm0, (isTs s k).1, byB_len]; rfl)⟩
    obtain ⟨x, y, rfl⟩ := len2 (show t0.length = 2 by omega)
    have hx : x < 256 := T0.1.2.2.2.2 x (by simp)
    have hy : y < 256 := T0.1.2.2.2.2 y (by simp)
    refine (value02 kk.value T0.1.2.2.2.1 T0.1.2.2.2.2 (by simp)).mono ?_
    rintro _ _ ⟨rfl, rfl⟩
    rw [deB_two]
    refine ⟨_, rfl, fun i30 e30 g31 e31 => ?_⟩
    have e30 := i64w e30 (by omega) (by omega)
    subst e30
    obtain ⟨g32, k32, n32, o32, v32⟩ := put_new e31 (vs := [.int .i64 ((x + 256 * y : Nat) : Int), .slice none 0 0]) rfl
    have w32 := (v32 [] (fun c hc => by cases hc)).1
    refine ⟨rfl, g32, k32, ?_⟩
    generalize hsb : g2.next = sb at *
    refine ⟨fun i42 k g => ∃ j : Nat, i42 = ((j + 1 : Nat) : Int) ∧ j ≤ ts'.length ∧ ts'.length - j = k ∧ Old g2 g ∧ sb < g.next ∧ ∃ done p5 n5 c5, opsOf (ts'.take j) = some done ∧ g.get sb = some (.cells [.int .i64 ((x + 256 * y : Nat) : Int), .slice p5 n5 c5] 24 false) ∧ n5 = done.length ∧ OpsG (sb + 1) g p5 n5 c5 done, ⟨_, 0, rfl, Nat.zero_le _, rfl, o32, by omega, [], none, 0, 0, rfl, w32, rfl, OpsG.nil _ _⟩, ?_⟩
    rintro k34 g40 i42 ⟨j, rfl, hj, rfl, o40, lt40, done, p5, n5, c5', hdone, w40, rfl, OG⟩
    have oh40 := oh2.trans o40
    have c40 : g40.get h.next = some (.cells zScr 24 false) := (o40.2 _ (by have := o2.1; omega)).trans c0
    have dl := opsOf_len hdone
    rw [List.length_take] at dl
    refine ⟨fun z => ?_, fun z => ?_⟩
    · have hj' : j < ts'.length := by omega
      obtain ⟨_, e1, -, -, pj, mj, dj, lj, Tj⟩ := RG.text (i := j + 1) (by simp; omega)
      cases e1
      simp only [List.getElem_cons_succ] at Tj
      have lj' := m o40 lj
      have tk : ts'.take (j + 1) = ts'.take j ++ [ts'[j]] := List.take_succ_eq_append_getElem hj'
      have Tj40 := Tj.old o40
      refine derefP_at ⟨by omega, z, pj, mj, dj, by rw [Int.toNat_natCast, Nat.mul_one]; exact lj', (split02 kk.split kk.value Tj40.1 Tj40.2.1 fun a ha => (Tj40.2.2 a ha).2).mono ?_⟩
      rintro _ g44 ⟨hq, o44⟩
      have o244 := o40.trans o44
      have oh44 := oh2.trans o244
      have c44 : g44.get h.next = some (.cells zScr 24 false) := (o244.2 _ (by have := o2.1; omega)).trans c0
      have isOp : ∀ s, ScrIs data s → splitB ts'[j] = none ∨ (∀ l, splitB ts'[j] = some l → ∃ o, l = opTs o) := fun s k => by
        have hs := (isTs s k).2
        have hjs : j < s.ops.length := by rw [hs] at hj'; simpa using hj'
        have : splitB ts'[j] = some (opTs s.ops[j]) := op_split (k.1.ops _ (List.getElem_mem hjs)) (by simp [hs])
        exact .inr fun l hl => ⟨_, by rw [this] at hl; exact (Option.some.inj hl).symm⟩
      have isNo : splitB ts'[j] = none → ∀ s, ¬ ScrIs data s := fun hn s k => by
        have hs := (isTs s k).2
        have hjs : j < s.ops.length := by rw [hs] at hj'; simpa using hj'
        have : splitB ts'[j] = some (opTs s.ops[j]) := op_split (k.1.ops _ (List.getElem_mem hjs)) (by simp [hs])
        rw [hn] at this
        cases this
      cases htj : splitB ts'[j] with
      | none =>
        rw [htj] at hq
        obtain rfl : _ = _ := hq
        exact ⟨_, _, _, _, rfl, fun z => absurd z (by decide), fun _ => out oh44 c44 (isNo htj)⟩
      | some tj =>
        rw [htj] at hq
        obtain ⟨p45, c47, rfl, RJ⟩ := hq
        have isOp' : ∀ s, ScrIs data s → ∃ o, tj = opTs o := fun s k => by
          rcases isOp s k with z | z
          · rw [z] at htj; cases htj
          · exact z tj htj
        refine ⟨_, _, _, _, rfl, fun _ => ⟨fun h5 => ?_, fun h5 => out oh44 c44 fun s k => ?_⟩, fun z => absurd rfl z⟩
        rotate_left
        · obtain ⟨o, rfl⟩ := isOp' s k; exact h5 rfl
        obtain ⟨t0, t1, t2, t3, t4, rfl⟩ := len5 (show tj.length = 5 by omega)
        obtain ⟨bj, rfl, lbj, ubj, q0, m0', d0', r0, U0⟩ := RJ.text (i := 0) (by simp)
        obtain ⟨_, e1, -, -, q1, m1, d1, r1, U1⟩ := RJ.text (i := 1) (by simp)
        cases e1
        obtain ⟨_, e2, -, -, q2, m2, d2, r2, U2⟩ := RJ.text (i := 2) (by simp)
        cases e2
        obtain ⟨_, e3, -, -, q3, m3, d3, r3, U3⟩ := RJ.text (i := 3) (by simp)
        cases e3
        obtain ⟨_, e4, -, -, q4, m4, d4, r4, U4⟩ := RJ.text (i := 4) (by simp)
        cases e4
        simp only [List.getElem_cons_zero, List.getElem_cons_succ] at U0 U1 U2 U3 U4
        have mj : ∀ {g : AH}, Old g44 g → ∀ {i : Nat} {v : Value}, ld1 g44 bj i = some v → ld1 g bj (0 + i) = some v := fun {g} o {i} {v} q => by rw [Nat.zero_add, ← q]; unfold ld1; rw [o.2 bj ubj]
        have rf := Old.refl g44
        have hu0 := U0.1.2.1
        refine derefP_at ⟨by decide, by omega, _, _, _, mj rf r0, fun hl3 => derefP_at ⟨by decide, by omega, _, _, _, mj rf r0, ?_⟩, fun hl3 => out oh44 c44 fun s k => ?_⟩
        rotate_left
        · obtain ⟨o, ho⟩ := isOp' s k
          simp only [opTs, List.cons.injEq] at ho
          rw [hu0, ho.1, headB_len] at hl3
          exact hl3 rfl
        obtain ⟨x', y', z', rfl⟩ := len3 (show t0.length = 3 by omega)
        have hx' : x' < 256 := U0.1.2.2.2.2 x' (by simp)
        have hy' : y' < 256 := U0.1.2.2.2.2 y' (by simp)
        have hz' : z' < 256 := U0.1.2.2.2.2 z' (by simp)
        obtain rfl : m0' = 3 := hu0
        obtain ⟨p59, c61, k59, hp59, -, -⟩ := cutP eU8 (by simp) U0.2.1 (some 1) none (by simp [endN]) (Nat.le_refl _)
        have S59 := U0.1.2.2.2.1.cut2 (lo := 1) (hi := 3) (by decide) (by decide) (p' := p59) (fun b off z => by simpa [endN] using hp59 b off z)
        refine ⟨p59, 2, c61, by simpa [endN, endV] using k59, (value02 kk.value (data := [y', z']) S59 (by simp; omega) (by simp)).mono ?_⟩
        rintro _ _ ⟨rfl, rfl⟩
        rw [deB_two]
        obtain ⟨b0, off0, rfl⟩ : ∃ b off, q0 = some ⟨b, off, none⟩ := by
          rcases U0.1.2.2.2.1.2 with q | ⟨b, off, al, e, ro, q, -⟩
          · omega
          · exact ⟨b, off, q⟩
        obtain ⟨bq, oq, eq, hv⟩ := U0.1.2.2.2.1.get (i := 0) (by decide)
        cases eq
        have opq := opOf_of htj
        refine ⟨_, rfl, derefP_at ⟨by decide, by omega, _, _, _, mj rf r0, derefP_at ⟨by decide, by decide, _, hv, fun i73 e73 i74 e74 => derefP_at ⟨by decide, by omega, _, _, _, mj rf r1, _, convSb U1.1, derefP_at ⟨by decide, by omega, _, _, _, mj rf r2, _, convSb U2.1, derefP_at ⟨by decide, by omega, _, _, _, mj rf r3, fun g92 e92 => ?_⟩⟩⟩⟩⟩⟩
        have e73 := i64w e73 (by omega) (by omega)
        have e74 := i64w e74 (by omega) (by omega)
        subst e73 e74
        obtain ⟨g93, k93, n93, o93, v93⟩ := put_new e92 (vs := [.int .i64 (x' : Int), .string (strOf t1), .string (strOf t2), .int .i64 ((y' + 256 * z' : Nat) : Int), .slice q3 m3 d3, .slice none 0 0]) rfl
        have w93 := (v93 [] (fun c hc => by cases hc)).1
        refine ⟨rfl, g93, k93, mj rf r0, mj rf r0, hv, hv, mj rf r1, mj rf r1, ⟨_, convSb U1.1⟩, ⟨_, convSb U1.1⟩, mj rf r2, mj rf r2, ⟨_, convSb U2.1⟩, ⟨_, convSb U2.1⟩, mj rf r3, mj rf r3, _, ld1_at w93 rfl, fun hN => ⟨_, st1_of w93 (by simp), ?_⟩, fun hN => ?_⟩
        · have hnO : nOf (y' + 256 * z') = -1 := by unfold nOf; rw [if_pos (by omega)]
          generalize hL : g44.next = lb' at *
          generalize hG : g93.set _ _ = G
          have nr : Near lb' g93 G := by rw [← hG]; exact near_set _ _ _
          have oG : Old g44 G := o93.near nr (by omega)
          have ln : lb' < G.next := by rw [nr.1]; omega
          have wG : G.get lb' = some (.cells [.int .i64 (x' : Int), .string (strOf t1), .string (strOf t2), .int .i64 (nOf (y' + 256 * z')), .slice q3 m3 d3, .slice none 0 0] 43 false) := by rw [hnO, ← hG]; exact get_set_self _ _ _
          clear w93 k93 v93 e92
          have o40G := o44.trans oG
          have kb := U4.1.2.1
          refine derefP_at ⟨by decide, by omega, _, _, _, mj oG r4, ?_⟩
          refine ⟨fun i k g => ∃ u : Nat, i = u ∧ u ≤ m4 ∧ m4 - u = k ∧ Old g44 g ∧ lb' < g.next ∧ ∃ p6 n6 c6, g.get lb' = some (.cells [.int .i64 (x' : Int), .string (strOf t1), .string (strOf t2), .int .i64 (nOf (y' + 256 * z')), .slice q3 m3 d3, .slice p6 n6 c6] 43 false) ∧ n6 = u ∧ Grow (lb' + 1) g 4 1 p6 n6 c6 (bolC ((keepOf t4).take u)), ⟨_, 0, rfl, Nat.zero_le _, rfl, oG, ln, none, 0, 0, wG, rfl, Grow.nil _ _ _ _⟩, ?_⟩
          rintro k67 g68 i70 ⟨u, rfl, hu, rfl, o68, ln68, p6, n6, c6, w68, rfl, G68⟩
          refine ⟨fun q => ?_, fun q => ?_⟩
          · have hj6 : n6 < t4.length := by omega
            obtain ⟨bk, ok, rfl, hlk⟩ := (U4.1.old o68).2.2.2.1.get (i := n6) (by omega)
            rw [natC_get hj6] at hlk
            have hkt : (keepOf t4).take (n6 + 1) = (keepOf t4).take n6 ++ [decide (0 < t4[n6])] := by
              rw [List.take_succ_eq_append_getElem (by rw [keepOf_len]; exact hj6), keepOf_at hj6]
            refine derefP_at ⟨by omega, q, _, by rw [Int.toNat_natCast, Nat.mul_one]; exact hlk, _, _, _, ld1_at w68 rfl, fun q1 g88 e88 => ?_, fun q1 g88 e88 => ?_⟩
            all_goals
              have e88 : g88 = g68.alloc (.cells (bolC [decide (0 < t4[n6])]) 4 false) := by
                rw [e88]
                first
                  | (rw [decide_eq_true (show 0 < t4[n6] by omega)]; rfl)
                  | (rw [decide_eq_false (show ¬ 0 < t4[n6] by omega)]; rfl)
              obtain ⟨p89, c91, g92, k92, G92, o92, f92, -⟩ := G68.push eBool (by omega) (m := 1) (ns := bolC [decide (0 < t4[n6])]) e88 rfl (by have := U4.1.2.2.1; omega) (by have := U4.1.2.2.1; omega)
              have w92 : g92.get lb' = _ := (o92.2 _ (by omega)).trans w68
              refine ⟨p89, _, c91, g92, k92, _, st1_of w92 (by simp), fun i94 e94 => ?_⟩
              have e94 := i64w e94 (by omega) (by have := U4.1.2.2.1; omega)
              refine ⟨_, by omega, n6 + 1, by rw [e94]; rfl, by omega, rfl, ⟨by have := o68.1; have := o92.1; show g44.next ≤ g92.next; omega, fun b hb => by rw [get_set_ne (by omega), o92.2 b (by omega), o68.2 b hb]⟩, by have := o92.1; show lb' < g92.next; omega, _, _, _, get_set_self _ _ _, rfl, ?_⟩
              rw [hkt, bolC_app]
              exact ⟨G92.1, G92.2.imp id fun ⟨b, q2, q3, q4, q5, q6⟩ => ⟨b, q2, q3, q4, by rw [get_set_ne (by omega)]; exact q5, q6⟩⟩
          · obtain rfl : n6 = m4 := by omega
            rw [List.take_of_length_le (by rw [keepOf_len]; omega)] at G68
            have o4068 := o44.trans o68
            have ws68 : g68.get sb = _ := (o4068.2 _ lt40).trans w40
            refine ⟨_, _, _, ld1_at ws68 rfl, _, _, _, _, _, _, _, _, _, _, ldN_all w68 rfl, fun g76 e76 => ?_⟩
            have ap5 : ∀ b, g40.next ≤ b → apart p5 b := fun b hb => by
              obtain ⟨-, cells, G, -⟩ := OG
              rcases G.2 with ⟨rfl, -⟩ | ⟨b', rfl, q3, q4, -⟩
              · exact trivial
              · show b' ≠ b; omega
            have l4044 := o44.1
            have l44 := o68.1
            obtain ⟨p77, c79, g80, k80, OG80, o80, f80⟩ := (OG.old o4068).push (by have := o4068.1; omega) (o := ⟨x', strOf t1, strOf t2, nOf (y' + 256 * z'), t3, keepOf t4⟩) ⟨q3, m3, d3, p6, n6, c6, rfl, U3.1.old o68, ⟨G68.form, by rw [keepOf_len]; omega, U4.1.2.2.1, G68.shows⟩, by rw [strOf_size]; have := U1.1.2.1; have := U1.1.2.2.1; omega, by rw [strOf_size]; have := U2.1.2.1; have := U2.1.2.2.1; omega, fun a ha => by have := U3.2.2 a ha; exact ⟨by omega, by omega, ap5 _ (by omega)⟩, fun a ha => by have := G68.block ha; exact ⟨by omega, by omega, ap5 _ (by omega)⟩⟩ e76 (by omega)
            have ws80 : g80.get sb = _ := (o80.2 _ (by omega)).trans ws68
            refine ⟨p77, _, c79, g80, k80, _, st1_of ws80 (by simp), fun i82 e82 => ?_⟩
            have e82 := i64w e82 (by omega) (by omega)
            refine ⟨_, by omega, j + 1, by omega, hj', rfl, ⟨by have := o40.1; have := o80.1; show g2.next ≤ g80.next; omega, fun b hb => by rw [get_set_ne (by omega), o80.2 b (by omega), o4068.2 b (by have := o40.1; omega), o40.2 b hb]⟩, by have := o80.1; show sb < g80.next; omega, done ++ [_], p77, _, c79, ?_, get_set_self _ _ _, by simp, OG80.kept (Nat.le_refl _) fun b hb _ => get_set_ne (by omega)⟩
            rw [tk, opsOf_app, hdone, opq]
        · have hnO : nOf (y' + 256 * z') = ((y' + 256 * z' : Nat) : Int) := by unfold nOf; rw [if_neg (by omega)]
          generalize hL : g44.next = lb' at *
          have ln : lb' < g93.next := by omega
          have wG : g93.get lb' = some (.cells [.int .i64 (x' : Int), .string (strOf t1), .string (strOf t2), .int .i64 (nOf (y' + 256 * z')), .slice q3 m3 d3, .slice none 0 0] 43 false) := by rw [hnO]; exact w93
          have oG := o93
          clear w93 k93 v93 e92 n93 o93
          generalize g93 = G at *
          have o40G := o44.trans oG
          have kb := U4.1.2.1
          refine derefP_at ⟨by decide, by omega, _, _, _, mj oG r4, ?_⟩
          refine ⟨fun i k g => ∃ u : Nat, i = u ∧ u ≤ m4 ∧ m4 - u = k ∧ Old g44 g ∧ lb' < g.next ∧ ∃ p6 n6 c6, g.get lb' = some (.cells [.int .i64 (x' : Int), .string (strOf t1), .string (strOf t2), .int .i64 (nOf (y' + 256 * z')), .slice q3 m3 d3, .slice p6 n6 c6] 43 false) ∧ n6 = u ∧ Grow (lb' + 1) g 4 1 p6 n6 c6 (bolC ((keepOf t4).take u)), ⟨_, 0, rfl, Nat.zero_le _, rfl, oG, ln, none, 0, 0, wG, rfl, Grow.nil _ _ _ _⟩, ?_⟩
          rintro k67 g68 i70 ⟨u, rfl, hu, rfl, o68, ln68, p6, n6, c6, w68, rfl, G68⟩
          refine ⟨fun q => ?_, fun q => ?_⟩
          · have hj6 : n6 < t4.length := by omega
            obtain ⟨bk, ok, rfl, hlk⟩ := (U4.1.old o68).2.2.2.1.get (i := n6) (by omega)
            rw [natC_get hj6] at hlk
            have hkt : (keepOf t4).take (n6 + 1) = (keepOf t4).take n6 ++ [decide (0 < t4[n6])] := by
              rw [List.take_succ_eq_append_getElem (by rw [keepOf_len]; exact hj6), keepOf_at hj6]
            refine derefP_at ⟨by omega, q, _, by rw [Int.toNat_natCast, Nat.mul_one]; exact hlk, _, _, _, ld1_at w68 rfl, fun q1 g88 e88 => ?_, fun q1 g88 e88 => ?_⟩
            all_goals
              have e88 : g88 = g68.alloc (.cells (bolC [decide (0 < t4[n6])]) 4 false) := by
                rw [e88]
                first
                  | (rw [decide_eq_true (show 0 < t4[n6] by omega)]; rfl)
                  | (rw [decide_eq_false (show ¬ 0 < t4[n6] by omega)]; rfl)
              obtain ⟨p89, c91, g92, k92, G92, o92, f92, -⟩ := G68.push eBool (by omega) (m := 1) (ns := bolC [decide (0 < t4[n6])]) e88 rfl (by have := U4.1.2.2.1; omega) (by have := U4.1.2.2.1; omega)
              have w92 : g92.get lb' = _ := (o92.2 _ (by omega)).trans w68
              refine ⟨p89, _, c91, g92, k92, _, st1_of w92 (by simp), fun i94 e94 => ?_⟩
              have e94 := i64w e94 (by omega) (by have := U4.1.2.2.1; omega)
              refine ⟨_, by omega, n6 + 1, by rw [e94]; rfl, by omega, rfl, ⟨by have := o68.1; have := o92.1; show g44.next ≤ g92.next; omega, fun b hb => by rw [get_set_ne (by omega), o92.2 b (by omega), o68.2 b hb]⟩, by have := o92.1; show lb' < g92.next; omega, _, _, _, get_set_self _ _ _, rfl, ?_⟩
              rw [hkt, bolC_app]
              exact ⟨G92.1, G92.2.imp id fun ⟨b, q2, q3, q4, q5, q6⟩ => ⟨b, q2, q3, q4, by rw [get_set_ne (by omega)]; exact q5, q6⟩⟩
          · obtain rfl : n6 = m4 := by omega
            rw [List.take_of_length_le (by rw [keepOf_len]; omega)] at G68
            have o4068 := o44.trans o68
            have ws68 : g68.get sb = _ := (o4068.2 _ lt40).trans w40
            refine ⟨_, _, _, ld1_at ws68 rfl, _, _, _, _, _, _, _, _, _, _, ldN_all w68 rfl, fun g76 e76 => ?_⟩
            have ap5 : ∀ b, g40.next ≤ b → apart p5 b := fun b hb => by
              obtain ⟨-, cells, G, -⟩ := OG
              rcases G.2 with ⟨rfl, -⟩ | ⟨b', rfl, q3, q4, -⟩
              · exact trivial
              · show b' ≠ b; omega
            have l4044 := o44.1
            have l44 := o68.1
            obtain ⟨p77, c79, g80, k80, OG80, o80, f80⟩ := (OG.old o4068).push (by have := o4068.1; omega) (o := ⟨x', strOf t1, strOf t2, nOf (y' + 256 * z'), t3, keepOf t4⟩) ⟨q3, m3, d3, p6, n6, c6, rfl, U3.1.old o68, ⟨G68.form, by rw [keepOf_len]; omega, U4.1.2.2.1, G68.shows⟩, by rw [strOf_size]; have := U1.1.2.1; have := U1.1.2.2.1; omega, by rw [strOf_size]; have := U2.1.2.1; have := U2.1.2.2.1; omega, fun a ha => by have := U3.2.2 a ha; exact ⟨by omega, by omega, ap5 _ (by omega)⟩, fun a ha => by have := G68.block ha; exact ⟨by omega, by omega, ap5 _ (by omega)⟩⟩ e76 (by omega)
            have ws80 : g80.get sb = _ := (o80.2 _ (by omega)).trans ws68
            refine ⟨p77, _, c79, g80, k80, _, st1_of ws80 (by simp), fun i82 e82 => ?_⟩
            have e82 := i64w e82 (by omega) (by omega)
            refine ⟨_, by omega, j + 1, by omega, hj', rfl, ⟨by have := o40.1; have := o80.1; show g2.next ≤ g80.next; omega, fun b hb => by rw [get_set_ne (by omega), o80.2 b (by omega), o4068.2 b (by have := o40.1; omega), o40.2 b hb]⟩, by have := o80.1; show sb < g80.next; omega, done ++ [_], p77, _, c79, ?_, get_set_self _ _ _, by simp, OG80.kept (Nat.le_refl _) fun b hb _ => get_set_ne (by omega)⟩
            rw [tk, opsOf_app, hdone, opq]
    · obtain rfl : j = ts'.length := by omega
      rw [List.take_length] at hdone
      have hscr := scrOf_of hts hdone
      have hn96 : done.length * 96 ≤ reachBytes := by simp at h201; omega
      refine ⟨_, _, _, _, ldN_all w40 rfl, (bytes23Spec kk.s23 (s := ⟨(x + 256 * y : Nat), done⟩) (OG.ops hn96)).mono ?_⟩
      rintro _ g93 ⟨hq, o93⟩
      have oh93 := oh40.trans o93
      have c93 : g93.get h.next = some (.cells zScr 24 false) := ((o40.trans o93).2 _ (by have := o2.1; omega)).trans c0
      have isS : ∀ s, ScrIs data s → s = ⟨(x + 256 * y : Nat), done⟩ := fun s k => by
        have := scrOf_B k.1
        rw [k.2, hscr] at this
        exact (Option.some.inj this).symm
      rcases hq with ⟨hok, pb, cb, rfl, Tb⟩ | ⟨hno, rfl⟩
      · have T93 := T.old oh93
        refine ⟨_, _, _, _, rfl, fun _ => ⟨_, convSb Tb.1, _, convSb T93, fun hE => ?_, fun hE => ?_⟩, fun z => absurd rfl z⟩
        · have hE := strOf_inj Tb.1.2.2.2.2 T93.2.2.2.2 hE
          have ws93 : g93.get sb = _ := (o93.2 _ lt40).trans w40
          refine ⟨_, _, _, _, ldN_all ws93 rfl, rfl, _, stN_all c93 rfl, _, _, _, _, ldN_all (get_set_self _ _ _) rfl, .inl ⟨_, _, _, _, ⟨hok, hE⟩, rfl, ?_⟩, ⟨oh93.1, fun b hb => by rw [get_set_ne (by omega)]; exact oh93.2 b hb⟩⟩
          exact OpsG.ops (OpsG.kept (OG.old o93) (Nat.le_refl _) fun b hb _ => get_set_ne (by have := oh2.1; omega)) hn96
        · exact out oh93 c93 fun s k => hE (by have := isS s k; subst this; rw [k.2])
      · exact ⟨_, _, _, _, rfl, fun z => absurd z (by decide), fun _ => out oh93 c93 fun s k => hno (by have := isS s k; subst this; exact k.1)⟩
end
end Go.Am
