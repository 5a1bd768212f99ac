/-
  NOTHING IS LOST AND NOTHING TWICE: the law of trees, as the abstract machine runs it.
-/
import Derived.Test.YteblpmcekhcgiacCSince
import Derived.Test.YteblpmcekhcgiacCAcc
import Derived.Test.YteblpmcekhcgiacCTrim
import Derived.Test.YteblpmcekhcgiacCSetRef
import Derived.Test.YteblpmcekhcgiacCPutAt
set_option linter.unusedVariables false
set_option linter.unusedSimpArgs false
set_option maxRecDepth 100000
namespace Go.Am
open Go.Proofs
theorem new200 : (newM 200).count 1 = 196 := by kernel_rfl
theorem new200_two : (newM 200).all (fun x => decide (x ≠ 2)) = true := by kernel_rfl
theorem tk_new (x : Nat) : tk (newM 200) x = 0 := by
  unfold tk
  rw [if_neg]
  intro h
  have := List.all_eq_true.1 new200_two 2 (List.mem_of_getElem? h)
  simp at this
theorem cp_holes (x : Nat) : cp x (ordP hole holes (fun _ => holes)) = 0 := by
  unfold cp cq
  rw [List.countP_eq_zero]
  intro q hq
  have : q = hole := by
    unfold ordP at hq
    rcases List.mem_cons.1 hq with e | hq
    · exact e
    · rw [List.mem_flatMap] at hq
      obtain ⟨j, hj, hq⟩ := hq
      have hj := List.mem_range.1 hj
      unfold sub at hq
      have hjj : holes[j]? = some hole := by rw [List.getElem?_replicate, if_pos hj]
      rw [hjj] at hq
      rcases List.mem_cons.1 hq with e | hq
      · exact e
      · exact (List.mem_replicate.1 hq).2
  simp [this]
theorem zIn4 : aBuild Try.prog 50 #[] = some (.agg (List.replicate 4096 (Value.bool false)).toArray) := by kernel_rfl
theorem noHoles_ok {l : List Tr3} (h : ∀ q ∈ l, QOk q) : ∀ q ∈ noHoles l, QOk q ∧ q ≠ hole := fun q hq => ⟨h q (List.mem_filter.1 hq).1, of_decide_eq_true (List.mem_filter.1 hq).2⟩
theorem since0 {l : List Tr3} (h : ∀ q ∈ l, QOk q) : l.filter (sinceB 0) = noHoles l := by
  unfold noHoles
  apply List.filter_congr
  intro q hq
  unfold sinceB
  rcases (h q hq).2 with e | e
  · rw [e]; rfl
  · by_cases z : q = hole
    · rw [z]; rfl
    · rw [decide_eq_true (show q ≠ hole ∧ (0 : Int) < (q.2.1 : Nat) from ⟨z, by omega⟩), decide_eq_true z]
theorem SetAt.old {h h' : AH} {v : Value} {f : Nat → Prop} (s : SetAt h v f) (o : Old h h') : SetAt h' v f := by
  obtain ⟨p, n, c, sp, h1, h2, h3, h4⟩ := s
  exact ⟨p, n, c, sp, h1, h2, h3.old o, h4⟩
theorem tk_le (M : List Nat) (x : Nat) : tk M x ≤ 1 ∧ (1 ≤ tk M x → M[x]? = some 2) := by
  unfold tk
  by_cases h : M[x]? = some 2
  · rw [if_pos h]; exact ⟨Nat.le_refl _, fun _ => h⟩
  · rw [if_neg h]; exact ⟨Nat.zero_le _, fun z => absurd z (by decide)⟩
theorem cp_take {l : List Tr3} {u : Nat} {q : Tr3} (hq : l[u]? = some q) (x : Nat) : cp x (l.take (u + 1)) = cp x (l.take u) + cp x [q] ∧ cp x (l.take (u + 1)) ≤ cp x l := by
  obtain ⟨h1, rfl⟩ := List.getElem?_eq_some_iff.1 hq
  refine ⟨by rw [List.take_succ_eq_append_getElem h1, cp_app], ?_⟩
  have : cp x l = cp x (l.take (u + 1)) + cp x (l.drop (u + 1)) := by rw [← cp_app, List.take_append_drop]
  omega
section
variable {K : Xs}
theorem TS.keep1 {g0 g g' : AH} {rb p d m tot j : Nat} {F : List Nat} {W : Nat} {nw : List (List Nat)} {M : List Nat} {st : Nat} {root : Tr3} {L1 : List Tr3} {L2 : Nat → List Tr3} {pp : Option Addr} (t : TS g0 rb p d m tot j g F W nw M st root L1 L2) (k : Keep1 pp g g')
    (ha : ∀ a, pp = some a → a.block ∉ F ∧ a.block ≠ rb ∧ g0.next ≤ a.block) : TS g0 rb p d m tot j g' F W nw M st root L1 L2 :=
  { t with
    po := t.po.keep1 k fun a e => (ha a e).1
    old := ⟨Nat.le_trans t.old.1 k.1, fun c hc => by rw [k.2 c (Nat.lt_of_lt_of_le hc t.old.1) (apart_of fun a e z => by have := (ha a e).2.2; omega), t.old.2 c hc]⟩
    rt := t.rt.keep1 k fun a e => (ha a e).2.1 }
/-- What holds of a tree and of what was replaced. -/
def TO (g0 : AH) (rb p d m na : Nat) (pp : Option Addr) (n c : Nat) (i : Int) (k : Nat) (g : AH) : Prop :=
  ∃ (j : Nat) (F : List Nat) (W : Nat) (nw : List (List Nat)) (M : List Nat) (st : Nat) (root : Tr3) (L1 : List Tr3) (L2 : Nat → List Tr3) (old : List Tr3), i = j ∧ j ≤ na ∧ na - j = k ∧ TS g0 rb p d m 196 j g F W nw M st root L1 L2 ∧ nw.length = 200 ∧
    Grow g0.next g 29 3 pp n c (ptr3 old) ∧ (∀ a, pp = some a → a.block ∉ F ∧ a.block ≠ rb) ∧ n ≤ 3 * j ∧ (∀ q ∈ old, QOk q ∧ q ≠ hole) ∧ ∀ x, cp x (ordP root L1 L2) + cp x old = tk M x
theorem toldTrue (hk : K 5 = none) (ha : K 7 = some (.sum xTrue)) (k1 : K 8 = none) (k2 : K 26 = none) (k3 : K 27 = none) (k4 : K 25 = none)
    (kk : KTree K) (kS : K 9 = none) (kT : K 11 = none) (kA : K 15 = none) (kSi : K 35 = none) (kN : K 14 = none) (kSame : K 17 = none) (kS1 : K 18 = none) (kSet1 : K 20 = none) (kTk : K 19 = none) (kAll : K 36 = some (.sum (xAll 87)))
    {h : AH} {pa : Option Addr} {na ca : Nat} {acts : List Act3} (T : Acts h pa na acts) (sn : Int) :
    Wf Try.prog K 5 [.slice pa na ca, .int .u64 sn] h fun v _ => v = .bool true := by
  refine vc_aquiferlaw11_TreeTold hk _ _ _ _ h _ (Wf_sum ha (v := .bool true) (h' := h) rfl (Nat.le_refl _) (.inl ⟨rfl, fun _ => rfl, fun q1 => ?_⟩))
  refine (made k1 k2 k3 k4 kk.mSet 200 (by decide) h).mono ?_
  rintro _ g3 ⟨p, F0, d, m, Fd0, rfl, P3, o3, hF3⟩
  refine ⟨_, rfl, fun g5 e5 => ?_⟩
  obtain ⟨g6, k6, n6, o6, v6⟩ := put_new e5 (vs := [.int .i64 0, .int .u64 0, .int .u32 0]) rfl
  have B3 : PO g3 p F0 d m 0 (List.replicate 200 (List.replicate 128 0)) (newM 200) 1 0 := ⟨Fd0, P3⟩
  refine ⟨rfl, g6, k6, fun g7 e7 => ?_⟩
  have o7 := old_of_alloc e7
  have n7 := next_of_alloc e7
  have B7 := (B3.old o6).old o7
  refine ⟨TO h g3.next p d m na, ⟨_, 0, F0, 0, _, _, 1, hole, holes, fun _ => holes, [], rfl, Nat.zero_le _, rfl, ⟨B7, Nat.le_refl _, ⟨by decide, by decide⟩, Nat.le_refl _, by rw [new200]; decide, by simp, tree_none _ _, bi_none _, (o3.trans o6).trans o7, hF3, (v6 F0 B3.lt).old o7, o3.1⟩, by simp, Grow.lit e7 rfl (by have := o3.1; omega), fun a e => ?_, Nat.le_refl _, (fun q hq => by cases hq), fun x => by rw [cp_holes, tk_new]; rfl⟩, ?_⟩
  · simp only [Option.some.injEq] at e
    subst e
    exact ⟨fun z => absurd ((B3.old o6).lt _ z) (Nat.lt_irrefl _), by show g6.next ≠ _; omega⟩
  rintro k9 g10 p12 n13 c14 i15 ⟨j, F, W, nw, M, st, root, L1, L2, old, rfl, hj, rfl, S10, hnw, G10, hp10, hn13, hold, hacc⟩
  have hpb10 : ∀ a, p12 = some a → a.block < g10.next := fun a e => (G10.block e).2
  refine ⟨fun q5 => ?_, fun q5 => ?_⟩
  · have hjn : j < na := by omega
    obtain ⟨bb, off, rfl, hja, p20, n21, c22, hld, tx⟩ := T.at2 S10.old hjn
    generalize acts[j] = act at hld tx
    obtain ⟨kd, nn, data⟩ := act
    simp only at hld tx
    refine derefP_at ⟨by omega, q5, _, _, _, _, _, by rw [Int.toNat_natCast]; exact hld, fun g23 e23 => ?_⟩
    obtain ⟨g24, k24, n24, o24, v24⟩ := put_new e23 (vs := [.int .i64 kd, .int .i64 nn, .slice p20 n21 c22]) rfl
    have w24 := v24 F S10.po.lt
    refine ⟨rfl, g24, k24, fun g25 e25 => ?_⟩
    have o25 := old_of_alloc e25
    have n25 := next_of_alloc e25
    have w25 := w24.old o25
    have S25 := S10.fr ((S10.po.old o24).old o25) ((o24.fr F).trans (o25.fr F))
    have G25 := (G10.old o24).old o25
    -- what is left to do behind a change
    have aft : ∀ (g38 : AH) (F' : List Nat) (W' : Nat) (nw' : List (List Nat)) (M' : List Nat) (q : Tr3) (L1' : List Tr3) (L2' : Nat → List Tr3) (Y : List Tr3) (pr : Option Addr) (nr cr : Nat), PO g38 p F' d m W' nw' M' st 0 → Fr F g25 g38 F' → W' ≤ W + 3 → M.count 1 ≤ M'.count 1 + 3 → nw'.length = nw.length → Tree nw' M' q L1' L2' → BI st q L1' L2' →
        Shows g38 pr nr 3 (ptr3 Y) → (pr = none ∨ ∃ b off, pr = some ⟨b, off, none⟩) → (∀ a, pr = some a → a.block ≠ g3.next) → Y.length ≤ 3 → (∀ x ∈ Y, QOk x ∧ x ≠ hole) → (∀ x, cp x (ordP q L1' L2') + cp x (old ++ Y) = tk M' x) →
        ∃ g40, stN g38 g3.next 0 [.int .i64 (q.1 : Nat), .int .u64 (q.2.1 : Nat), .int .u32 (q.2.2 : Nat)] = some g40 ∧ ∃ (p41 : Option Addr) (n42 c43 : Nat) (h44 : AH), aBuiltin Try.prog g40 .append #[33, 33] [.slice p12 n13 c14, .slice pr nr cr] = some (.slice p41 n42 c43, h44) ∧
          (∀ i45 : Int, i45 = IntKind.wrap .i64 ((j : Int) + 1) → ∃ j11, j11 < na - j ∧ TO h g3.next p d m na p41 n42 c43 i45 j11 h44) := by
      intro g38 F' W' nw' M' q L1' L2' Y pr nr cr B38 f38 hW hM hN t38 b38 hY fY hpr hYl hYok hacc'
      obtain ⟨oo38, hF38⟩ := f38.old S25.old S25.fresh
      have hp25 : ∀ a, p12 = some a → a.block ∉ F' := fun a e z => (f38.2.2 _ z).elim (hp10 a e).1 (fun y => by have := hpb10 a e; have := o24.1; omega)
      have G38 := G25.frN f38 (fun a e => (hp10 a e).1)
      have r38 := S25.rt.fr f38
      obtain ⟨g40, k40, nr40, w40⟩ := r38.put (vs := qC q) rfl
      have B40 := B38.nearN nr40 r38.2.2
      have G40 := G38.nearN nr40 (fun a e => (hp10 a e).2)
      have S40 : Shows g40 pr nr 3 (ptr3 Y) := by
        refine ⟨hY.1, hY.2.imp id ?_⟩
        rintro ⟨b, off, al, ty, ro, e, h1, h2, h3, h4⟩
        exact ⟨b, off, al, ty, ro, e, by rw [nr40.1]; exact h1, by rw [nr40.2 b (hpr _ e)]; exact h2, h3, h4⟩
      have hnr : nr ≤ 3 := by have := hY.1; rw [ptr3_len] at this; omega
      have oo40 := oo38.near nr40 S25.rbl
      obtain ⟨p41, c43, g44, k44, G44, kp, wh⟩ := pushOld (cx := cr) G40 oo40.1 S40 fY (by omega)
      have TS40 : TS h g3.next p d m 196 (j + 1) g40 F' W' nw' M' st q L1' L2' :=
        ⟨B40, by have := S25.w; omega, S25.sok, by have := S25.sle; omega, by have := S25.cnt; omega, by rw [hN]; exact S25.len, t38, b38, oo40, hF38, w40, S25.rbl⟩
      refine ⟨g40, k40, p41, _, c43, g44, k44, fun i45 e45 => ?_⟩
      have e45 := i64w e45 (by omega) (by omega)
      refine ⟨_, by omega, j + 1, F', W', nw', M', st, q, L1', L2', old ++ Y, by rw [e45]; rfl, hjn, rfl, TS40.keep1 kp (fun a e => ⟨hp25 a e, (hp10 a e).2, (G10.block e).1⟩), by rw [hN]; exact hnw, G44, fun a e => ?_, by omega, fun x hx => (List.mem_append.1 hx).elim (hold x) (hYok x), hacc'⟩
      rcases wh with z | ⟨b, z, hb⟩
      · rw [z] at e
        exact ⟨hp25 a e, (hp10 a e).2⟩
      · rw [z] at e
        simp only [Option.some.injEq] at e
        subst e
        have := w40.2.1
        exact ⟨fun y => absurd (B40.lt _ y) (by simp only; omega), by show b ≠ _; omega⟩
    refine ⟨_, w25.cell rfl, fun _ => ?_, fun _ => ⟨fun _ => ?_, fun _ g53 e53 => ?_⟩⟩
    · -- trimmed
      refine ⟨_, _, _, S25.rt.ld rfl, _, w25.cell rfl, ?_⟩
      refine (treeTrim kk kT S25.po (by have := S25.w; omega) S25.sok S25.len S25.tree nn (by have := S25.cnt; omega)).mono ?_
      rintro v g32 (⟨e, -, rfl, B32, f32⟩ | ⟨i, q2, b, q2', q3, nw1, M1, nw2, M2, F', W', pr, nr, cr, rfl, hi, hq2, hb, -, rfl, p2, p3, hW', B32, f32, G32, hpr⟩)
      · obtain ⟨g40, k40, rest⟩ := aft g32 F W nw M root L1 L2 [] none 0 0 B32 f32 (by omega) (by omega) rfl S25.tree S25.bi ⟨rfl, .inl rfl⟩ (.inl rfl) (fun a e => by cases e) (Nat.zero_le _) (fun x hx => by cases hx) (fun x => by rw [List.append_nil]; exact hacc x)
        exact ⟨_, _, _, _, _, _, _, rfl, rfl, g40, k40, rest⟩
      · have t' := S25.tree.upd (c := hole) hi (Stay.refl nw M) S25.len S25.sok hole_ok p2 p3
        have b' := S25.bi.upd (c := hole) (Nat.zero_le _) hq2 p2 p3
        have hc2 : M.count 1 ≤ M1.count 1 + 1 := by
          rcases p2 with ⟨-, -, -, rfl⟩ | ⟨-, -, p2⟩
          · omega
          · have := p2.cnt; omega
        have hc3 : M1.count 1 ≤ M2.count 1 + 1 := by
          rcases p3 with ⟨-, -, -, rfl⟩ | ⟨-, -, p3⟩
          · omega
          · have := p3.cnt; omega
        have okb := S25.tree.ok2 (i / 8) (by omega) b (List.mem_of_getElem? hb)
        obtain ⟨g40, k40, rest⟩ := aft g32 F' W' nw2 M2 q3 _ _ (noHoles [b, q2, root]) pr nr cr B32 f32 (by omega) (by omega) (by rw [p3.len, p2.len]) t' b' G32.shows G32.form (fun a e => by have := (G32.block e).1; have := S25.rt.2.1; omega)
          (Nat.le_trans (List.length_filter_le _ _) (Nat.le_refl 3))
          (noHoles_ok fun x hx => by
            simp only [List.mem_cons, List.not_mem_nil, or_false] at hx
            rcases hx with rfl | rfl | rfl
            · exact okb
            · exact (S25.tree.at2 _ _ hq2).ok
            · exact S25.tree.at1.ok)
          (fun x => by
            have h1 := cp_upd (q3 := q3) (q2' := q2') (c := hole) (root := root) (show i / 8 < 8 by omega) hq2 hb x
            have h2 := hacc x
            have h3 := p2.tk x
            have h4 := p3.tk x
            rw [cp_app, cp_noHoles]
            rw [cp_three x hole, cp_hole] at h1
            omega)
        exact ⟨_, _, _, _, _, _, _, rfl, rfl, g40, k40, rest⟩
    · -- the next stamp
      refine (nextP kN S25.po (by have := S25.sle; omega)).mono ?_
      rintro _ g47 ⟨B47, f47⟩
      have hp47 : ∀ a, p12 = some a → a.block ∉ F := fun a e => (hp10 a e).1
      have G47 := G25.frN f47 hp47
      obtain ⟨oo47, hF47⟩ := f47.old S25.old S25.fresh
      obtain ⟨p48, c50, g51, k51, G51, kp, wh⟩ := pushOld (cx := 0) (px := some ⟨g24.next, 0, none⟩) (Y := []) (m := 0) G47 oo47.1 ⟨rfl, .inl rfl⟩ (.inr ⟨_, _, rfl⟩) (by omega)
      have hs := S25.sle
      have TS47 : TS h g3.next p d m 196 (j + 1) g47 F W nw M (st + 1) root L1 L2 :=
        ⟨B47, by have := S25.w; omega, ⟨by omega, by omega⟩, by omega, by have := S25.cnt; omega, S25.len, S25.tree, S25.bi.mono (Nat.le_succ _), oo47, hF47, S25.rt.fr f47, S25.rbl⟩
      refine ⟨p48, _, c50, g51, k51, fun i52 e52 => ?_⟩
      have e52 := i64w e52 (by omega) (by omega)
      rw [List.append_nil] at G51
      refine ⟨_, by omega, j + 1, F, W, nw, M, st + 1, root, L1, L2, old, by rw [e52]; rfl, hjn, rfl, TS47.keep1 kp (fun a e => ⟨hp47 a e, (hp10 a e).2, (G10.block e).1⟩), hnw, G51, fun a e => ?_, by omega, hold, hacc⟩
      rcases wh with z | ⟨b, z, hb⟩
      · rw [z] at e
        exact hp10 a e
      · rw [z] at e
        simp only [Option.some.injEq] at e
        subst e
        have := TS47.rt.2.1
        exact ⟨fun y => absurd (B47.lt _ y) (by simp only; omega), by show b ≠ _; omega⟩
    · -- set
      obtain ⟨p57, c59, g60, k60, o60, S60, form60, blk60⟩ := copyText (c := c22) tx S25.old e53
      have w53 := w25.old (old_of_alloc e53)
      have w60 := w25.old o60
      have T60 := S25.fr (S25.po.old o60) (o60.fr F)
      have r53 := S25.rt.old (old_of_alloc e53)
      refine ⟨_, _, _, w53.cell rfl, p57, _, c59, g60, k60, _, _, _, T60.rt.ld rfl, _, w60.cell rfl, ?_⟩
      have hda : ∀ a, p57 = some a → a.block ∉ F := fun x e z => absurd (S25.po.lt _ z) (Nat.not_lt.2 (blk60 x e))
      refine (treeSet kk kS T60.po (by have := T60.w; omega) T60.sok T60.len T60.tree nn S60 form60 hda tx.2.2.2.2 (by have := T60.cnt; omega)).mono ?_
      have f60 : Fr F g25 g60 F := o60.fr F
      rintro v g66 (⟨e, -, -, rfl, B66, f66⟩ | ⟨i, q0, b0, q1', q2', q3', nw1, M1, nw2, M2, nw3, M3, F', pr, nr, cr, rfl, hi, hdl, hq0, hb0, rfl, p1, p2, p3, B66, f66, G66, hpr⟩)
      · obtain ⟨g74, k74, rest⟩ := aft g66 F W nw M root L1 L2 [] none 0 0 B66 (f60.trans f66) (by omega) (by omega) rfl S25.tree S25.bi ⟨rfl, .inl rfl⟩ (.inl rfl) (fun a e => by cases e) (Nat.zero_le _) (fun x hx => by cases hx) (fun x => by rw [List.append_nil]; exact hacc x)
        exact ⟨_, _, _, _, _, _, _, rfl, rfl, g74, k74, r53.ld rfl, T60.rt.ld rfl, w53.cell rfl, w60.cell rfl, rest⟩
      · obtain ⟨t1, t2, t3, t4, t5, y2, y3, hne, -⟩ := set_step T60.tree T60.bi hi T60.sok T60.len hq0 (blk_sec hdl tx.2.2.2.2) p1 p2 p3
        have okb := S25.tree.ok2 (i / 8) (by omega) b0 (List.mem_of_getElem? hb0)
        obtain ⟨g74, k74, rest⟩ := aft g66 F' (W + 3) nw3 M3 q3' _ _ (noHoles [b0, q0, root]) pr nr cr B66 (f60.trans f66) (by omega) (by omega) t3 t1 t2 G66.shows G66.form (fun a e => by have := (G66.block e).1; have := T60.rt.2.1; omega)
          (Nat.le_trans (List.length_filter_le _ _) (Nat.le_refl 3))
          (noHoles_ok fun x hx => by
            simp only [List.mem_cons, List.not_mem_nil, or_false] at hx
            rcases hx with rfl | rfl | rfl
            · exact okb
            · exact (S25.tree.at2 _ _ hq0).ok
            · exact S25.tree.at1.ok)
          (fun x => by
            have h1 := cp_upd (q3 := q3') (q2' := q2') (c := q1') (root := root) (show i / 8 < 8 by omega) hq0 hb0 x
            have h2 := hacc x
            have h3 := p1.tk hne x
            have h4 := y2.tk x
            have h5 := y3.tk x
            rw [cp_app, cp_noHoles]
            rw [cp_three x q1'] at h1
            omega)
        exact ⟨_, _, _, _, _, _, _, rfl, rfl, g74, k74, r53.ld rfl, T60.rt.ld rfl, w53.cell rfl, w60.cell rfl, rest⟩
  · -- what is told
    have r10 := S10.rt
    refine ⟨_, _, _, r10.ld rfl, (treeAll kk kA kSi S10.po S10.tree 0).mono ?_⟩
    rintro _ g84 ⟨p85, n86, c87, rfl, B84, f84, G84⟩
    refine ⟨_, _, _, _, rfl, _, _, _, (r10.fr f84).ld rfl, (treeAll kk kA kSi B84 S10.tree sn).mono ?_⟩
    rintro _ g93 ⟨p94, n95, c96, rfl, B93, f93, G93⟩
    refine ⟨_, _, _, _, rfl, fun _ => ⟨fun _ => ⟨_, zIn4, fun g99 e99 => ?_⟩, fun z => absurd rfl z⟩, fun z => absurd rfl z⟩
    have hlen : ∀ sn, (allL root L1 L2 sn).length ≤ 73 := fun sn => by
      unfold allL
      split
      · have := kids_all (L1 := L1) S10.tree.l2 sn 8 (Nat.le_refl _)
        simp only [List.length_cons]
        omega
      · simp
    have hokP := ordP_ok S10.tree
    have hA0 : allL root L1 L2 0 = noHoles (ordP root L1 L2) := by rw [all_filter S10.bi, since0 hokP]
    have hokA : ∀ q ∈ allL root L1 L2 0, QOk q ∧ q ≠ hole := fun q hq => noHoles_ok hokP q (by rw [← hA0]; exact hq)
    have hcpA : ∀ x, cp x (allL root L1 L2 0) = cp x (ordP root L1 L2) := fun x => by rw [hA0, cp_noHoles]
    have hokC : ∀ q ∈ allL root L1 L2 sn, QOk q := fun q hq => by
      rw [all_filter S10.bi] at hq
      exact hokP q (List.mem_filter.1 hq).1
    have hfin : (allL root L1 L2 0).filter (fun q => decide (sn < (q.2.1 : Nat))) = allL root L1 L2 sn := by
      rw [hA0, all_filter S10.bi]
      unfold noHoles
      rw [List.filter_filter]
      apply List.filter_congr
      intro q _
      unfold sinceB
      by_cases z1 : q ≠ hole <;> by_cases z2 : sn < (q.2.1 : Nat) <;> simp [z1, z2]
    have hlA := hlen 0
    have hlC := hlen sn
    have hF10 := S10.po.lt
    have hF84 := B84.lt
    have sA93 := (G84.fr f93 hF10)
    have hn86 : n86 = (allL root L1 L2 0).length := by have := G84.1; rw [ptr3_len] at this; omega
    have hn95 : n95 = (allL root L1 L2 sn).length := by have := G93.1; rw [ptr3_len] at this; omega
    have hn13' : n13 = old.length := by have := G10.1; rw [ptr3_len] at this; omega
    generalize allL root L1 L2 0 = A at sA93 hn86 hlA hfin hokA hcpA G84
    generalize allL root L1 L2 sn = C at G93 hn95 hlC hfin hokC
    obtain ⟨g100, k100, n100, o100, v100⟩ := put_new e99 (vs := List.replicate 4096 (Value.bool false)) (by simp)
    have w100 := v100 F B93.lt
    refine ⟨by simp, g100, k100, fun g101 e101 => ?_⟩
    have o101 := old_of_alloc e101
    have n101 := next_of_alloc e101
    obtain ⟨p102, c104, g105, k105, G105, kp105, -⟩ := pushOld (cx := c87) (Grow.lit (sz := 3) (n := 0) (cs := ptr3 []) e101 rfl (Nat.le_refl _)) o101.1 ((sA93.old o100).old o101).shows G84.form (by omega)
    have o105 : Old g100 g105 := ⟨by have := kp105.1; omega, fun c hc => by rw [kp105.2 c (by omega) (apart_of fun a e => by cases e; show g100.next ≠ c; omega), o101.2 c hc]⟩
    have G12 := (((G10.frN f84 (fun a e => (hp10 a e).1)).frN f93 (fun a e => (hp10 a e).1)).old o100).old o105
    obtain ⟨p106, c108, g109, k109, G109, kp109, -⟩ := pushOld (cx := c14) G105 o105.1 G12.shows G12.form (by omega)
    have o109 : Old g100 g109 := ⟨by have := kp109.1; have := o105.1; omega, fun c hc => by rw [kp109.2 c (by have := o105.1; omega) (apart_of fun a e => by have := (G105.block e).1; omega), o105.2 c hc]⟩
    refine ⟨p102, _, c104, g105, k105, p106, _, c108, g109, k109, ?_⟩
    rw [List.nil_append] at G109
    have hTok : ∀ q ∈ A ++ old, QOk q ∧ q ≠ hole := fun q hq => (List.mem_append.1 hq).elim (hokA q) (hold q)
    have hTcp : ∀ x, cp x (A ++ old) = tk M x := fun x => by rw [cp_app, hcpA]; exact hacc x
    have hTl : (A ++ old).length = 0 + n86 + n13 := by rw [List.length_append]; omega
    generalize A ++ old = TL at G109 hTok hTcp hTl
    have c109 : g109.get g93.next = some (.cells (List.replicate 4096 (.bool false)) 50 false) := (o109.2 _ w100.2.1).trans w100.1
    refine ⟨fun i k g => ∃ u : Nat, i = u ∧ u ≤ TL.length ∧ TL.length - u = k ∧ g109.next ≤ g.next ∧ (∀ c, c < g109.next → c ≠ g93.next → g.get c = g109.get c) ∧ g.get g93.next = some (.cells (markC (TL.take u)) 50 false), ⟨_, 0, rfl, Nat.zero_le _, rfl, Nat.le_refl _, fun _ _ _ => rfl, by rw [List.take_zero, markC_nil]; exact c109⟩, ?_⟩
    rintro k111 g112 i114 ⟨u, rfl, hu, rfl, l112, f112, m112⟩
    have l109 := o109.1
    have sT : Shows g112 p106 (0 + n86 + n13) 3 (ptr3 TL) := by
      refine ⟨G109.1, ?_⟩
      rcases G109.2 with ⟨-, z, -⟩ | ⟨b, hp, h1, h2, h3, -⟩
      · exact .inl z
      · exact .inr ⟨b, 0, _, _, _, hp, by omega, (f112 b h2 (by omega)).trans h3, by rw [G109.1]; omega, by rw [List.drop_zero, List.take_of_length_le (Nat.le_of_eq G109.1)]⟩
    refine ⟨fun z => ?_, fun z => ?_⟩
    · have huT : u < TL.length := by omega
      obtain ⟨b115, o116, rfl, hld, -⟩ := sT.getN (i := u) (by omega)
      rw [ptr3_get TL u huT] at hld
      have hqe : TL[u]? = some TL[u] := List.getElem?_eq_getElem huT
      have hq := hTok _ (List.getElem_mem huT)
      have htk : TL.take (u + 1) = TL.take u ++ [TL[u]] := List.take_succ_eq_append_getElem huT
      generalize TL[u] = q at hld hqe hq htk
      obtain ⟨ct1, ct2⟩ := cp_take hqe q.1
      rw [cp_one, if_pos ⟨hq.2, rfl⟩] at ct1
      obtain ⟨tl1, tl2⟩ := tk_le M q.1
      have hTq := hTcp q.1
      have hwi : 4 ≤ q.1 ∧ q.1 < 200 := by
        obtain ⟨Fd, P⟩ := B93
        have := P.within q.1 2 (tl2 (by omega)) (by decide)
        omega
      refine derefP_at ⟨by omega, z, _, _, _, by rw [Int.toNat_natCast]; exact hld, fun g120 e120 => ?_⟩
      obtain ⟨g121, k121, n121, o121, v121⟩ := put_new e120 (vs := [.int .i64 (q.1 : Nat), .int .u64 (q.2.1 : Nat), .int .u32 (q.2.2 : Nat)]) rfl
      have w121 := v121 [] (fun c hc => by cases hc)
      have m121 : g121.get g93.next = _ := (o121.2 _ (by omega)).trans m112
      refine ⟨rfl, g121, k121, _, w121.cell rfl, fun y => absurd y (by omega), fun _ => ⟨_, w121.cell rfl, fun y => absurd y (by omega), fun _ => ⟨_, w121.cell rfl, by omega, by omega, .inr ⟨?_, _, w121.cell rfl, by omega, by omega, _, st1_of m121 (by rw [markC_len, Int.toNat_natCast]; omega), fun i127 e127 => ?_⟩⟩⟩⟩
      · rw [Int.toNat_natCast, Nat.mul_one, Nat.zero_add]
        refine ld1_at m121 ?_
        rw [markC_get (by omega), decide_eq_false (by omega)]
      · have e127 := i64w e127 (by omega) (by omega)
        have k126 := near_set g93.next g121 (.cells ((markC (TL.take u)).set (0 + Int.toNat ((q.1 : Nat) : Int) * 1) (.bool true)) 50 false)
        refine ⟨_, by omega, u + 1, by rw [e127]; rfl, huT, rfl, by rw [k126.1]; omega, fun c hc hne => by rw [k126.2 c hne, o121.2 c (by omega), f112 c hc hne], ?_⟩
        rw [get_set_self, Int.toNat_natCast, Nat.mul_one, Nat.zero_add, markC_set hq.2 (by omega), htk]
    · intro g128 e128
      have huT : u = TL.length := by omega
      rw [List.take_of_length_le (by omega)] at m112
      have o128 := old_of_alloc e128
      have sA112 : Shows g112 p85 n86 3 (ptr3 A) := by
        have G := (sA93.old o100).old o109
        refine ⟨G.1, ?_⟩
        rcases G.2 with ⟨-, z, -⟩ | ⟨b, hp, h1, h2, h3, -⟩
        · exact .inl z
        · have hb := (G84.block hp).2
          simp only at hb
          have := f93.1
          exact .inr ⟨b, 0, _, _, _, hp, by omega, (f112 b h2 (by omega)).trans h3, by rw [G.1]; omega, by rw [List.drop_zero, List.take_of_length_le (Nat.le_of_eq G.1)]⟩
      have sC112 : Shows g112 p94 n95 3 (ptr3 C) := by
        have G := (G93.old o100).old o109
        refine ⟨G.1, ?_⟩
        rcases G.2 with ⟨-, z, -⟩ | ⟨b, hp, h1, h2, h3, -⟩
        · exact .inl z
        · have hb := (G93.block hp).2
          simp only at hb
          exact .inr ⟨b, 0, _, _, _, hp, by omega, (f112 b h2 (by omega)).trans h3, by rw [G.1]; omega, by rw [List.drop_zero, List.take_of_length_le (Nat.le_of_eq G.1)]⟩
      have B112 : PO g112 p F d m W nw M st 0 := ((B93.old o100).old o109).imp fun Fd P => P.keep l112 fun c hc => f112 c (P.mem_lt c hc) (by have := B93.lt c hc; omega)
      refine ⟨fun pp n c i k g => ∃ u : Nat, i = u ∧ u ≤ n86 ∧ n86 - u = k ∧ Old g112 g ∧ Grow g112.next g 29 3 pp n c (ptr3 ((A.take u).filter (fun q => decide (sn < (q.2.1 : Nat))))), ⟨_, 0, rfl, Nat.zero_le _, rfl, o128, Grow.lit e128 rfl (Nat.le_refl _)⟩, ?_⟩
      rintro k130 g131 p133 n134 c135 i136 ⟨w, rfl, hw, rfl, o131, G131⟩
      refine ⟨fun z => ?_, fun z => ?_⟩
      · have hwA : w < A.length := by omega
        obtain ⟨b137, o138, rfl, hld, -⟩ := (sA112.old o131).getN (i := w) (by omega)
        rw [ptr3_get A w hwA] at hld
        have htk : A.take (w + 1) = A.take w ++ [A[w]] := List.take_succ_eq_append_getElem hwA
        generalize A[w] = x at hld htk
        refine derefP_at ⟨by omega, z, _, _, _, by rw [Int.toNat_natCast]; exact hld, fun g142 e142 => ?_⟩
        obtain ⟨g143, k143, n143, o143, v143⟩ := put_new e142 (vs := [.int .i64 (x.1 : Nat), .int .u64 (x.2.1 : Nat), .int .u32 (x.2.2 : Nat)]) rfl
        have w143 := v143 [] (fun c hc => by cases hc)
        refine ⟨rfl, g143, k143, _, w143.cell rfl, fun y => ⟨_, _, _, w143.ld rfl, fun g148 e148 => ?_⟩, fun y i154 e154 => ?_⟩
        · have hn134 : n134 * 3 ≤ 73 * 3 := by
            rw [← G131.1, ptr3_len]
            exact Nat.mul_le_mul_right _ (Nat.le_trans (List.length_filter_le _ _) (by rw [List.length_take]; omega))
          obtain ⟨p149, c151, g152, k152, G152, ob152, -, -⟩ := (G131.old o143).push ePtr (by have := o131.1; have := o143.1; omega) (m := 1) (ns := ptr3 [x]) e148 rfl (by unfold roomMax; omega) (by omega)
          refine ⟨p149, _, c151, g152, k152, fun i153 e153 => ?_⟩
          have e153 := i64w e153 (by omega) (by omega)
          refine ⟨_, by omega, w + 1, by rw [e153]; rfl, by omega, rfl, ⟨by have := o131.1; have := o143.1; have := ob152.1; omega, fun c hc => by rw [ob152.2 c hc, o143.2 c (by have := o131.1; omega), o131.2 c hc]⟩, ?_⟩
          rw [htk, List.filter_append, show List.filter (fun q : Tr3 => decide (sn < (q.2.1 : Nat))) [x] = [x] by simp [y], ptr3_app]
          exact G152
        · have e154 := i64w e154 (by omega) (by omega)
          refine ⟨_, by omega, w + 1, by rw [e154]; rfl, by omega, rfl, o131.trans o143, ?_⟩
          rw [htk, List.filter_append, show List.filter (fun q : Tr3 => decide (sn < (q.2.1 : Nat))) [x] = [] by simp [y], List.append_nil]
          exact G131.old o143
      · have hwA : w = A.length := by omega
        rw [List.take_of_length_le (by omega), hfin] at G131
        have B131 := B112.old o131
        refine (mapP kk B131).mono ?_
        rintro _ _ ⟨rfl, rfl⟩
        obtain ⟨Fd, P131⟩ := B131
        refine ⟨_, rfl, (mapTaken kTk kAll P131.map).mono ?_⟩
        rintro v g159 ⟨sv, o159⟩
        obtain ⟨p160, n161, c162, rfl⟩ : ∃ p n c, v = .slice p n c := by
          obtain ⟨p, n, c, sp, e, -⟩ := sv
          exact ⟨p, n, c, e⟩
        have m131 : g131.get g93.next = _ := (o131.2 _ (by omega)).trans m112
        have l93 : g93.next < g131.next := by have := o131.1; omega
        have m159 : g159.get g93.next = _ := (o159.2 _ l93).trans m131
        have x131 := ldN_all m131 (markC_len TL)
        have x159 := ldN_all m159 (markC_len TL)
        refine ⟨_, _, _, rfl, _, x159, (refSet01 kSet1 (fun x => decide (0 < cp x TL))).mono ?_⟩
        rintro v2 g165 ⟨sv2, o165⟩
        obtain ⟨p166, n167, c168, rfl⟩ : ∃ p n c, v2 = .slice p n c := by
          obtain ⟨p, n, c, sp, e, -⟩ := sv2
          exact ⟨p, n, c, e⟩
        refine ⟨_, _, _, rfl, (refSame01 kS1 (sv.old o165) sv2 fun x => ?_).mono ?_⟩
        · simp only [decide_eq_true_eq]
          rw [hTcp x]
          obtain ⟨t1, t2⟩ := tk_le M x
          constructor
          · intro y
            have hx := (P131.within x 2 y (by decide)).2
            refine ⟨by omega, ?_⟩
            unfold tk
            rw [if_pos y]
            decide
          · intro y
            exact t2 y.2
        rintro _ _ ⟨rfl, rfl⟩
        refine .inl ⟨rfl, (refSame11 kSame (((sC112.old o131).old o159).old o165) ((G131.old o159).old o165).shows hokC hokC (by omega)).mono ?_⟩
        rintro _ _ ⟨rfl, rfl⟩
        have self4 : ∀ {X : Prop}, X → vSelfL (markC TL) X := fun x => self_bool (l := List.range 4096) (f := fun x => decide (0 < cp x TL)) x
        exact .inl ⟨by simp, self4 ⟨x131, self4 ⟨x131, self4 ⟨x131, self4 ⟨x159, rfl⟩⟩⟩⟩⟩
theorem told_args {h : AH} {vs : List Value} (r : RdA Try.prog h 8 [22, 26] vs) :
    ∃ pa na ca acts a, vs = [.slice pa na ca, .int .u64 a] ∧ Acts h pa na acts := by
  obtain ⟨x, y, rfl, r1, r2⟩ := rda2 r
  obtain ⟨pa, na, ca, acts, rfl, T⟩ := rd_acts (g := 4) (rdv_acts r1)
  obtain ⟨a, rfl, -⟩ := rd_u64 (g := 7) r2
  exact ⟨pa, na, ca, acts, a, rfl, T⟩
end
end Go.Am
