/-
  ALL TRIMMED IT IS A HOLE: the law of trees, as the abstract machine runs it.
-/
import Derived.Test.YteblpmcekhcgiacCSince
import Derived.Test.YteblpmcekhcgiacCAcc
import Derived.Test.YteblpmcekhcgiacCBlocks
set_option linter.unusedVariables false
set_option linter.unusedSimpArgs false
set_option maxRecDepth 100000
namespace Go.Am
open Go.Proofs
/-- No node is empty. -/
structure NE (root : Tr3) (L1 : List Tr3) (L2 : Nat → List Tr3) : Prop where
  top : root ≠ hole → L1 ≠ holes
  one : ∀ (j : Nat) (q : Tr3), L1[j]? = some q → q ≠ hole → L2 j ≠ holes
theorem PutsO.ne {nw nw' : List (List Nat)} {M M' : List Nat} {st : Nat} {q : Tr3} {l : List Tr3} (k : PutsO nw M st q l nw' M') (h : q ≠ hole) : l ≠ holes := by
  rcases k with ⟨-, z, -, -⟩ | ⟨z, -, -⟩
  · exact absurd z h
  · exact z
theorem NE.upd {root : Tr3} {L1 : List Tr3} {L2 : Nat → List Tr3} (b : NE root L1 L2) {nw nw1 nw' : List (List Nat)} {M M1 M' : List Nat} {st i : Nat} {c q2 q3 : Tr3}
    (p2 : PutsO nw M st q2 ((L2 (i / 8)).set (i % 8) c) nw1 M1) (p3 : PutsO nw1 M1 st q3 (L1.set (i / 8) q2) nw' M') : NE q3 (L1.set (i / 8) q2) (upd2 L2 (i / 8) ((L2 (i / 8)).set (i % 8) c)) := by
  refine ⟨p3.ne, fun j q hq hne => ?_⟩
  unfold upd2
  rw [List.getElem?_set] at hq
  by_cases e : i / 8 = j
  · subst e
    rw [if_pos rfl] at hq ⊢
    split at hq
    · simp only [Option.some.injEq] at hq
      subst hq
      exact p2.ne hne
    · cases hq
  · rw [if_neg e] at hq
    rw [if_neg (fun z => e z.symm)]
    exact b.one j q hq hne
theorem ne_none : NE hole holes (fun _ => holes) := ⟨fun z => absurd rfl z, fun j q hq hne => absurd (mem_holes hq) hne⟩
theorem blkP_upd {L2 : Nat → List Tr3} {x : Nat} {c : Tr3} (hl : (L2 (x / 8)).length = 8) (k : Nat) : blkP (upd2 L2 (x / 8) ((L2 (x / 8)).set (x % 8) c)) k = if k = x then c else blkP L2 k := by
  unfold blkP upd2
  by_cases e : k = x
  · subst e
    rw [if_pos rfl, if_pos rfl, List.getElem?_set, if_pos rfl, if_pos (by omega)]
    rfl
  · rw [if_neg e]
    by_cases e2 : k / 8 = x / 8
    · rw [if_pos e2, List.getElem?_set, if_neg (by omega), e2]
    · rw [if_neg e2]
theorem all_holes {l : List Tr3} (hl : l.length = 8) (h : ∀ (k : Nat) (q : Tr3), l[k]? = some q → q = hole) : l = holes := by
  apply List.ext_getElem?
  intro k
  rw [List.getElem?_replicate]
  by_cases hk : k < 8
  · rw [if_pos hk, List.getElem?_eq_getElem (by omega), h k _ (List.getElem?_eq_getElem (by omega))]
  · rw [if_neg hk, List.getElem?_eq_none (by omega)]
theorem empty_root {nw : List (List Nat)} {M : List Nat} {root : Tr3} {L1 : List Tr3} {L2 : Nat → List Tr3} (t : Tree nw M root L1 L2) (b : NE root L1 L2) (h : ∀ k, k < 64 → blkP L2 k = hole) : root = hole ∧ nh (ordP root L1 L2) = 0 := by
  have h2 : ∀ j, j < 8 → L2 j = holes := fun j hj => all_holes (t.l2 j hj) fun k q hq => by
    have hk : k < 8 := by have := (List.getElem?_eq_some_iff.1 hq).1; have := t.l2 j hj; omega
    have := h (8 * j + k) (by omega)
    rw [blkP_at hk hq] at this
    exact this
  have h1 : L1 = holes := all_holes t.l1 fun j q hq => by
    by_cases e : q = hole
    · exact e
    · have hj : j < 8 := by have := (List.getElem?_eq_some_iff.1 hq).1; have := t.l1; omega
      exact absurd (h2 j hj) (b.one j q hq e)
  have hr : root = hole := by
    by_cases e : root = hole
    · exact e
    · exact absurd h1 (b.top e)
  refine ⟨hr, ?_⟩
  unfold nh cq
  rw [List.countP_eq_zero]
  intro q hq
  have : q = hole := by
    unfold ordP at hq
    rcases List.mem_cons.1 hq with e | hq
    · rw [e, hr]
    · rw [List.mem_flatMap] at hq
      obtain ⟨j, hj, hq⟩ := hq
      have hj := List.mem_range.1 hj
      unfold sub at hq
      rw [h1, show holes[j]? = some hole by rw [List.getElem?_replicate, if_pos hj], h2 j hj] at hq
      rcases List.mem_cons.1 hq with e | hq
      · exact e
      · exact (List.mem_replicate.1 hq).2
  simp [this]
theorem nh_none : nh (ordP hole holes (fun _ => holes)) = 0 := by decide
section
variable {K : Xs}
theorem trimsTrue (hk : K 3 = none) (ha : K 7 = some (.sum xTrue)) (k1 : K 8 = none) (k2 : K 26 = none) (k3 : K 27 = none) (k4 : K 25 = none)
    (kk : KTree K) (kS : K 9 = none) (kT : K 11 = none) (kB : K 10 = none)
    {h : AH} {pa : Option Addr} {na ca : Nat} {acts : List Act3} (T : Acts h pa na acts) (fr : Int) :
    Wf Try.prog K 3 [.slice pa na ca, .int .i64 fr] h fun v _ => v = .bool true := by
  refine vc_aquiferlaw11_TreeTrims hk _ _ _ _ h _ (Wf_sum ha (v := .bool true) (h' := h) rfl (Nat.le_refl _) (.inl ⟨rfl, fun _ => rfl, fun q1 => ⟨fun _ => rfl, fun q2 => ?_⟩⟩))
  obtain ⟨fa, rfl⟩ : ∃ fa : Nat, fr = fa := ⟨fr.toNat, by omega⟩
  refine (made k1 k2 k3 k4 kk.mSet 400 (by decide) h).mono ?_
  rintro _ g3 ⟨p, F0, d, m, Fd0, rfl, P3, o3, hF3⟩
  refine ⟨_, rfl, fun g5 e5 => ?_⟩
  obtain ⟨g6, k6, n6, o6, v6⟩ := put_new e5 (vs := [.int .i64 0, .int .u64 0, .int .u32 0]) rfl
  have B3 : PO g3 p F0 d m 0 (List.replicate 400 (List.replicate 128 0)) (newM 400) 1 0 := ⟨Fd0, P3⟩
  refine ⟨rfl, g6, k6, fun i11 i12 k g => ∃ (oc j : Nat) (F : List Nat) (W : Nat) (nw : List (List Nat)) (M : List Nat) (root : Tr3) (L1 : List Tr3) (L2 : Nat → List Tr3), i11 = oc ∧ i12 = j ∧ j ≤ na ∧ na - j = k ∧ TS h g3.next p d m 396 j g F W nw M 1 root L1 L2 ∧ NE root L1 L2 ∧ nh (ordP root L1 L2) + oc + M.count 1 = 396,
    ⟨_, 0, 0, F0, 0, _, _, hole, holes, fun _ => holes, rfl, rfl, Nat.zero_le _, rfl, ⟨B3.old o6, Nat.le_refl _, ⟨by decide, by decide⟩, Nat.le_refl _, by rw [new400]; decide, by simp, tree_none _ _, bi_none _, o3.trans o6, hF3, v6 F0 B3.lt, o3.1⟩, ne_none, by rw [nh_none, new400]⟩, ?_⟩
  rintro k8 g9 i11 i12 ⟨oc, j, F, W, nw, M, root, L1, L2, rfl, rfl, hj, rfl, S9, E9, hnh⟩
  refine ⟨fun q5 => ?_, fun q5 => ?_⟩
  · have hjn : j < na := by omega
    obtain ⟨bb, off, rfl, hja, p17, n18, c19, hld, tx⟩ := T.at2 S9.old hjn
    generalize acts[j] = act at hld tx
    obtain ⟨kd, nn, data⟩ := act
    simp only at hld tx
    refine derefP_at ⟨by omega, q5, _, _, _, _, _, by rw [Int.toNat_natCast]; exact hld, fun g20 e20 => ?_⟩
    obtain ⟨g21, k21, n21, o21, v21⟩ := put_new e20 (vs := [.int .i64 kd, .int .i64 nn, .slice p17 n18 c19]) rfl
    have w21 := v21 F S9.po.lt
    have S21 := S9.fr (S9.po.old o21) (o21.fr F)
    refine ⟨rfl, g21, k21, fun g22 e22 => ?_⟩
    obtain ⟨p26, c28, g29, k29, o29, S29, form29, blk29⟩ := copyText (c := c19) tx S21.old e22
    have w22 := w21.old (old_of_alloc e22)
    have w29 := w21.old o29
    have T29 := S21.fr (S21.po.old o29) (o29.fr F)
    have r22 := S21.rt.old (old_of_alloc e22)
    refine ⟨_, _, _, w22.cell rfl, p26, _, c28, g29, k29, _, _, _, T29.rt.ld rfl, _, w29.cell rfl, ?_⟩
    have hda : ∀ a, p26 = some a → a.block ∉ F := fun x e z => absurd (S21.po.lt _ z) (Nat.not_lt.2 (blk29 x e))
    refine (treeSet kk kS T29.po (by have := T29.w; omega) T29.sok T29.len T29.tree nn S29 form29 hda tx.2.2.2.2 (by have := T29.cnt; omega)).mono ?_
    rintro v g35 hv
    obtain ⟨q, pr, nr, cr, e, F', W', nw', M', L1', L2', rfl, hTS⟩ : ∃ (q : Tr3) (pr : Option Addr) (nr cr : Nat) (e : Int) (F' : List Nat) (W' : Nat) (nw' : List (List Nat)) (M' : List Nat) (L1' : List Tr3) (L2' : Nat → List Tr3), v = .tuple #[qV q, .slice pr nr cr, .int .i64 e] ∧
        PO g35 p F' d m W' nw' M' ((1 : Nat)) 0 ∧ Fr F g29 g35 F' ∧ W' ≤ W + 3 ∧ M.count 1 ≤ M'.count 1 + 3 ∧ nw'.length = nw.length ∧ Tree nw' M' q L1' L2' ∧ BI 1 q L1' L2' ∧ NE q L1' L2' ∧ nh (ordP q L1' L2') + (oc + nr) + M'.count 1 = 396 ∧ nr ≤ 3 := by
      rcases hv with ⟨e, -, -, rfl, B35, f35⟩ | ⟨i, q0, b0, q1', q2', q3', nw1, M1, nw2, M2, nw3, M3, F', pr, nr, cr, rfl, hi, hdl, hq0, hb0, rfl, p1, p2, p3, B35, f35, G35, -⟩
      · exact ⟨root, none, 0, 0, e, F, W, nw, M, L1, L2, rfl, B35, f35, by omega, by omega, rfl, T29.tree, T29.bi, E9, by omega, by omega⟩
      · obtain ⟨t1, t2, t3, t4, -, y2, y3, hne, -⟩ := set_step T29.tree T29.bi hi T29.sok T29.len hq0 (blk_sec hdl tx.2.2.2.2) p1 p2 p3
        have hu := nh_upd (q3 := q3') (q2' := q2') (c := q1') (root := root) (show i / 8 < 8 by omega) hq0 hb0
        have hnr : nr = nh [b0, q0, root] := by
          have := G35.1
          rw [ptr3_len, nh_noHoles] at this
          omega
        have c1 := p1.cnt
        have c2 := y2.nh
        have c3 := y3.nh
        have h1 := nh_one hne
        have hl3 : nh [b0, q0, root] ≤ 3 := by unfold nh cq; exact Nat.le_trans List.countP_le_length (Nat.le_refl 3)
        rw [nh_three q1'] at hu
        exact ⟨q3', pr, nr, cr, 0, F', W + 3, nw3, M3, _, _, rfl, B35, f35, by omega, by omega, t3, t1, t2, E9.upd y2 y3, by omega, by omega⟩
    obtain ⟨B35, f35, hW, hM, hN, t35, b35, e35, hnh', hnr⟩ := hTS
    refine ⟨_, _, _, _, _, _, _, rfl, fun g43 e43 => ?_⟩
    obtain ⟨g44, k44, n44, o44, v44⟩ := put_new e43 (vs := qC q) rfl
    have w44 := v44 F' B35.lt
    have r44 := (T29.rt.fr f35).old o44
    obtain ⟨g48, k48, nr48, w48⟩ := r44.put (vs := qC q) rfl
    refine ⟨rfl, g44, k44, r22.ld rfl, T29.rt.ld rfl, w22.cell rfl, w29.cell rfl, _, _, _, w44.ld rfl, rfl, g48, k48, fun i49 e49 i50 e50 => ?_⟩
    have e49 := i64w e49 (by omega) (by omega)
    have e50 := i64w e50 (by omega) (by omega)
    obtain ⟨oo35, hF35⟩ := f35.old T29.old T29.fresh
    have hw := T29.w
    have hc := T29.cnt
    exact ⟨_, by omega, oc + nr, j + 1, F', W', nw', M', q, L1', L2', by rw [e49]; rfl, by rw [e50]; rfl, hjn, rfl, ⟨(B35.old o44).nearN nr48 r44.2.2, by omega, T29.sok, by omega, by omega, by rw [hN]; exact T29.len, t35, b35, (oo35.trans o44).near nr48 T29.rbl, hF35, w48, T29.rbl⟩, e35, hnh'⟩
  · -- all are trimmed
    have r9 := S9.rt
    refine ⟨_, _, _, r9.ld rfl, (treeBlocks kk kB S9.po S9.tree).mono ?_⟩
    rintro _ g55 ⟨p56, n57, c58, rfl, B55, f55, G55⟩
    refine ⟨_, _, _, _, rfl, fun _ => ?_, fun z => absurd rfl z⟩
    have hn57 : n57 = (blL L2 64).length := by have := G55.1; rw [natC_len] at this; omega
    have hbl := blL_len L2 64
    have hmem : ∀ k, k < 64 → blkP L2 k ≠ hole → k ∈ blL L2 64 := fun k h1 h2 => blL_mem.2 ⟨h1, h2⟩
    have hlt : ∀ k ∈ blL L2 64, k < 64 := fun k hk => (blL_mem.1 hk).1
    have hp56 : ∀ a, p56 = some a → a.block ∉ F ∧ a.block ≠ g3.next ∧ g9.next ≤ a.block := fun a e => by
      have h1 := (G55.block e).1
      exact ⟨fun z => absurd (S9.po.lt _ z) (Nat.not_lt.2 h1), by have := S9.rt.2.1; omega, h1⟩
    generalize blL L2 64 = BL at G55 hn57 hbl hmem hlt
    have S55 := S9.fr B55 f55
    refine ⟨fun i64 i65 k g => ∃ (oc t : Nat) (F : List Nat) (W : Nat) (nw : List (List Nat)) (M : List Nat) (root : Tr3) (L1 : List Tr3) (L2 : Nat → List Tr3), i64 = oc ∧ i65 = t ∧ t ≤ n57 ∧ n57 - t = k ∧ TS h g3.next p d m 396 (na + t) g F W nw M 1 root L1 L2 ∧ NE root L1 L2 ∧ nh (ordP root L1 L2) + oc + M.count 1 = 396 ∧
      Grow g9.next g 3 1 p56 n57 c58 (natC .i64 BL) ∧ (∀ a, p56 = some a → a.block ∉ F) ∧ (∀ k, k < 64 → blkP L2 k ≠ hole → k ∈ BL) ∧ (∀ s x, s < t → BL[(fa % 1000 + s) % n57]? = some x → blkP L2 x = hole),
      ⟨_, oc, 0, F, W, nw, M, root, L1, L2, rfl, rfl, Nat.zero_le _, rfl, (by have e : j = na := (by omega); rw [Nat.add_zero, ← e]; exact S55), E9, hnh, G55, fun a e => (hp56 a e).1, hmem, fun s x hs => absurd hs (Nat.not_lt_zero _)⟩, ?_⟩
    have h39 := S9.rt.2.1
    clear S55 S9 E9 hnh r9 B55 f55 hmem G55 hp56
    rintro k61 g62 i64' i65 ⟨oc, t, F, W, nw, M, root, L1, L2, rfl, rfl, ht, rfl, S62, E62, hnh, G62, hp62, hmem, hdone⟩
    refine ⟨fun z => ?_, fun z => ?_⟩
    · have htn : t < n57 := by omega
      refine ⟨_, _, _, S62.rt.ld rfl, by decide, fun i69 e69 i70 e70 => ?_⟩
      rw [show (1000 : Int) = ((1000 : Nat) : Int) from rfl, tmodN] at e69
      subst e69
      have e70 := i64w e70 (by omega) (by omega)
      have e70 : i70 = ((fa % 1000 + t : Nat) : Int) := by omega
      subst e70
      refine ⟨by omega, fun i71 e71 => ?_⟩
      rw [tmodN] at e71
      subst e71
      have hml : (fa % 1000 + t) % n57 < n57 := Nat.mod_lt _ (by omega)
      have hmB : (fa % 1000 + t) % n57 < BL.length := by omega
      have hxe : BL[(fa % 1000 + t) % n57]? = some BL[(fa % 1000 + t) % n57] := List.getElem?_eq_getElem hmB
      obtain ⟨b72, o73, rfl, hld⟩ := G62.shows.get hml
      rw [natC_get hmB] at hld
      have hx64 := hlt _ (List.getElem_mem hmB)
      generalize BL[(fa % 1000 + t) % n57] = x at hxe hld hx64
      refine derefP_at ⟨by omega, by omega, _, by rw [Int.toNat_natCast, Nat.mul_one]; exact hld, ?_⟩
      refine (treeTrim kk kT S62.po (by have := S62.w; omega) S62.sok S62.len S62.tree (x : Nat) (by have := S62.cnt; omega)).mono ?_
      rintro v g76 hv
      have hl2 := S62.tree.l2 (x / 8) (by omega)
      obtain ⟨q, pr, nr, cr, F', W', nw', M', L1', L2', rfl, B76, f76, hW, hM, hN, t76, b76, e76, hnh', hnr, hblk⟩ : ∃ (q : Tr3) (pr : Option Addr) (nr cr : Nat) (F' : List Nat) (W' : Nat) (nw' : List (List Nat)) (M' : List Nat) (L1' : List Tr3) (L2' : Nat → List Tr3), v = .tuple #[qV q, .slice pr nr cr, .int .i64 0] ∧
          PO g76 p F' d m W' nw' M' ((1 : Nat)) 0 ∧ Fr F g62 g76 F' ∧ W' ≤ W + 3 ∧ M.count 1 ≤ M'.count 1 + 3 ∧ nw'.length = nw.length ∧ Tree nw' M' q L1' L2' ∧ BI 1 q L1' L2' ∧ NE q L1' L2' ∧ nh (ordP q L1' L2') + (oc + nr) + M'.count 1 = 396 ∧ nr ≤ 3 ∧ ∀ k, blkP L2' k = if k = x then hole else blkP L2 k := by
        rcases hv with ⟨e, he, rfl, B76, f76⟩ | ⟨i, q2, b, q2', q3, nw1, M1, nw2, M2, F', W', pr, nr, cr, hix, hi, hq2, hb, -, rfl, p2, p3, hW', B76, f76, G76, -⟩
        · rcases he with ⟨z, -⟩ | ⟨i, hix, hi, hb, rfl⟩
          · exact absurd ⟨by omega, by omega⟩ z
          · obtain rfl : x = i := by omega
            refine ⟨root, none, 0, 0, F, W, nw, M, L1, L2, rfl, B76, f76, by omega, by omega, rfl, S62.tree, S62.bi, E62, by omega, by omega, fun k => ?_⟩
            by_cases e : k = x
            · subst e
              rw [if_pos rfl]
              unfold blkP
              rw [hb]
              rfl
            · rw [if_neg e]
        · obtain rfl : x = i := by omega
          have t' := S62.tree.upd (c := hole) hi (Stay.refl nw M) S62.len S62.sok hole_ok p2 p3
          have b' := S62.bi.upd (c := hole) (Nat.zero_le _) hq2 p2 p3
          have hu := nh_upd (q3 := q3) (q2' := q2') (c := hole) (root := root) (show x / 8 < 8 by omega) hq2 hb
          have hnr : nr = nh [b, q2, root] := by
            have := G76.1
            rw [ptr3_len, nh_noHoles] at this
            omega
          have c2 := p2.nh
          have c3 := p3.nh
          have hl3 : nh [b, q2, root] ≤ 3 := by unfold nh cq; exact Nat.le_trans List.countP_le_length (Nat.le_refl 3)
          have hq21 : nh [q2'] ≤ 1 := by unfold nh cq; exact Nat.le_trans List.countP_le_length (Nat.le_refl 1)
          have hq31 : nh [q3] ≤ 1 := by unfold nh cq; exact Nat.le_trans List.countP_le_length (Nat.le_refl 1)
          rw [nh_three hole, nh_hole] at hu
          exact ⟨q3, pr, nr, cr, F', W', nw2, M2, _, _, rfl, B76, f76, by omega, by omega, by rw [p3.len, p2.len], t', b', E62.upd p2 p3, by omega, by omega, blkP_upd hl2⟩
      refine ⟨_, _, _, _, _, _, _, rfl, fun g84 e84 => ?_⟩
      obtain ⟨g85, k85, n85, o85, v85⟩ := put_new e84 (vs := qC q) rfl
      have w85 := v85 F' B76.lt
      have r85 := (S62.rt.fr f76).old o85
      obtain ⟨g89, k89, nr89, w89⟩ := r85.put (vs := qC q) rfl
      refine ⟨rfl, g85, k85, fun _ => ⟨_, _, _, w85.ld rfl, rfl, g89, k89, fun i90 e90 i91 e91 => ?_⟩, fun z => absurd rfl z⟩
      have e90 := i64w e90 (by omega) (by omega)
      have e91 := i64w e91 (by omega) (by omega)
      obtain ⟨oo76, hF76⟩ := f76.old S62.old S62.fresh
      have hw := S62.w
      have hc := S62.cnt
      have hsl := S62.sle
      have hrb := S62.rt.2.1
      have hb72 : b72 ≠ g3.next ∧ b72 ∉ F' ∧ b72 < g62.next := by
        have hb := G62.block (a := ⟨b72, o73, none⟩) rfl
        simp only at hb
        have h9 := hp62 ⟨b72, o73, none⟩ rfl
        simp only at h9
        exact ⟨by omega, fun y => (f76.2.2 _ y).elim h9 (fun y => by omega), hb.2⟩
      refine ⟨_, by omega, oc + nr, t + 1, F', W', nw', M', q, L1', L2', by rw [e90]; rfl, by rw [e91]; rfl, htn, rfl, ⟨(B76.old o85).nearN nr89 r85.2.2, by omega, S62.sok, by omega, by omega, by rw [hN]; exact S62.len, t76, b76, (oo76.trans o85).near nr89 S62.rbl, hF76, w89, S62.rbl⟩, e76, hnh',
        ((G62.frN f76 hp62).old o85).nearN nr89 (fun a e => by cases e; exact hb72.1), fun a e => (by cases e; exact hb72.2.1), fun k h1 h2 => hmem k h1 (fun e => h2 (by rw [hblk]; split; rfl; exact e)), fun s y hs hy => ?_⟩
      rw [hblk]
      split
      · rfl
      · rcases Nat.lt_or_ge s t with e | e
        · exact hdone s y e hy
        · obtain rfl : s = t := by omega
          rw [hxe] at hy
          cases hy
          rename_i e2
          exact absurd rfl e2
    · have htn : t = n57 := by omega
      subst htn
      have hall : ∀ k, k < 64 → blkP L2 k = hole := fun k hk => by
        by_cases e : blkP L2 k = hole
        · exact e
        · obtain ⟨s, hs, hsk⟩ := List.mem_iff_getElem.1 (hmem k hk e)
          have hs' : s < t := by omega
          have hm := Nat.mod_lt (fa % 1000) (show 0 < t by omega)
          have key : (fa % 1000 + (s + t - fa % 1000 % t) % t) % t = s := by
            rw [Nat.add_mod, Nat.mod_mod]
            generalize fa % 1000 % t = r at hm
            rcases Nat.lt_or_ge s r with e1 | e1
            · rw [Nat.mod_eq_of_lt (show s + t - r < t by omega), show r + (s + t - r) = s + t by omega, Nat.add_mod_right, Nat.mod_eq_of_lt hs']
            · rw [show s + t - r = (s - r) + t by omega, Nat.add_mod_right, Nat.mod_eq_of_lt (show s - r < t by omega), show r + (s - r) = s by omega, Nat.mod_eq_of_lt hs']
          refine hdone ((s + t - fa % 1000 % t) % t) k (Nat.mod_lt _ (by omega)) ?_
          rw [key, List.getElem?_eq_getElem hs, hsk]
      obtain ⟨hr, hn0⟩ := empty_root S62.tree E62 hall
      have hbe : blL L2 64 = [] := by
        unfold blL
        rw [List.filter_eq_nil_iff]
        intro k hk
        have := hall k (List.mem_range.1 hk)
        simp [this]
      refine ⟨_, _, _, S62.rt.ld rfl, (treeBlocks kk kB S62.po S62.tree).mono ?_⟩
      rintro _ g96 ⟨p97, n98, c99, rfl, B96, f96, G96⟩
      rw [hbe] at G96
      have hn98 : n98 = 0 := by have := G96.1; simp only [natC, List.map_nil, List.length_nil] at this; omega
      refine ⟨_, _, _, _, rfl, fun _ => ⟨fun _ => ⟨_, _, _, (S62.rt.fr f96).ld rfl, _, _, key3 S62.tree.at1.ok, kHole, fun _ => (mapP kk B96).mono ?_, fun e => ?_⟩, fun z => absurd (by omega) z⟩, fun z => absurd rfl z⟩
      · rintro _ _ ⟨rfl, rfl⟩
        refine ⟨_, rfl, (countP kk B96).mono ?_⟩
        rintro _ _ ⟨rfl, rfl⟩
        refine ⟨_, rfl, fun i112 e112 => ⟨fun _ => rfl, fun z => absurd ?_ z⟩⟩
        have e112 := i64w e112 (by omega) (by omega)
        omega
      · rw [hole3] at e
        exact absurd hr (of_decide_eq_false e)
theorem trims_args {h : AH} {vs : List Value} (r : RdA Try.prog h 8 [22, 3] vs) :
    ∃ pa na ca acts a, vs = [.slice pa na ca, .int .i64 a] ∧ Acts h pa na acts := by
  obtain ⟨x, y, rfl, r1, r2⟩ := rda2 r
  obtain ⟨pa, na, ca, acts, rfl, T⟩ := rd_acts (g := 4) (rdv_acts r1)
  obtain ⟨a, rfl, -⟩ := rd_int (g := 7) r2
  exact ⟨pa, na, ca, acts, a, rfl, T⟩
end
end Go.Am
