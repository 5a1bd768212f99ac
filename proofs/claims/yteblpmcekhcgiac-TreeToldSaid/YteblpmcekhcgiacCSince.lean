/-
  WHAT WAS BORN BEHIND A STAMP: the law of trees, as the abstract machine runs it.
-/
import Derived.Test.YteblpmcekhcgiacCStep
import Derived.Test.YteblpmcekhcgiacCActs
import Derived.Test.YteblpmcekhcgiacVTreeL
set_option linter.unusedVariables false
set_option linter.unusedSimpArgs false
set_option maxRecDepth 100000
namespace Go.Am
open Go.Proofs
theorem new400 : (newM 400).count 1 = 396 := by kernel_rfl
def qC (q : Tr3) : List Value := [.int .i64 (q.1 : Nat), .int .u64 (q.2.1 : Nat), .int .u32 (q.2.2 : Nat)]
/-- What holds of a tree while it is built. -/
structure TS (g0 : AH) (rb p d m tot j : Nat) (g : AH) (F : List Nat) (W : Nat) (nw : List (List Nat)) (M : List Nat) (st : Nat) (root : Tr3) (L1 : List Tr3) (L2 : Nat → List Tr3) : Prop where
  po : PO g p F d m W nw M st 0
  w : W ≤ 3 * j
  sok : StOk st
  sle : st ≤ j + 1
  cnt : tot ≤ M.count 1 + 3 * j
  len : nw.length ≤ 1024
  tree : Tree nw M root L1 L2
  bi : BI st root L1 L2
  old : Old g0 g
  fresh : ∀ c ∈ F, g0.next ≤ c
  rt : Mine g F rb (qC root) 29
  rbl : g0.next ≤ rb
theorem TS.fr {g0 g g' : AH} {rb p d m tot j : Nat} {F : List Nat} {W : Nat} {nw : List (List Nat)} {M : List Nat} {st : Nat} {root : Tr3} {L1 : List Tr3} {L2 : Nat → List Tr3} (t : TS g0 rb p d m tot j g F W nw M st root L1 L2) (B : PO g' p F d m W nw M st 0) (f : Fr F g g' F) : TS g0 rb p d m tot j g' F W nw M st root L1 L2 :=
  { t with po := B, old := (f.old t.old t.fresh).1, rt := t.rt.fr f }
theorem TS.step {g0 g : AH} {rb p d m tot j : Nat} {F : List Nat} {W : Nat} {nw : List (List Nat)} {M : List Nat} {st : Nat} {root : Tr3} {L1 : List Tr3} {L2 : Nat → List Tr3} (t : TS g0 rb p d m tot j g F W nw M st root L1 L2) : TS g0 rb p d m tot (j + 1) g F W nw M st root L1 L2 :=
  { t with w := by have := t.w; omega, sle := by have := t.sle; omega, cnt := by have := t.cnt; omega }
section
variable {K : Xs}
theorem sinceTrue (hk : K 4 = none) (ha : K 7 = some (.sum xTrue)) (k1 : K 8 = none) (k2 : K 26 = none) (k3 : K 27 = none) (k4 : K 25 = none)
    (kk : KTree K) (kS : K 9 = none) (kA : K 15 = none) (kSi : K 35 = none) (kN : K 14 = none) (kSt : K 16 = none) (kSame : K 17 = none)
    {h : AH} {pa : Option Addr} {na ca : Nat} {acts : List Act3} (T : Acts h pa na acts) (a b : Int) :
    Wf Try.prog K 4 [.slice pa na ca, .int .u64 a, .int .u64 b] h fun v _ => v = .bool true := by
  refine vc_aquiferlaw11_TreeSince hk _ _ _ _ _ h _ (Wf_sum ha (v := .bool true) (h' := h) rfl (Nat.le_refl _) (.inl ⟨rfl, fun _ => rfl, fun q1 => ?_⟩))
  refine (made k1 k2 k3 k4 kk.mSet 400 (by decide) h).mono ?_
  rintro _ g3 ⟨p, F0, d, m, Fd0, rfl, P3, o3, hF3⟩
  refine ⟨_, rfl, fun g5 e5 => ?_⟩
  obtain ⟨g6, k6, n6, o6, v6⟩ := put_new e5 (vs := [.int .i64 0, .int .u64 0, .int .u32 0]) rfl
  have B3 : PO g3 p F0 d m 0 (List.replicate 400 (List.replicate 128 0)) (newM 400) 1 0 := ⟨Fd0, P3⟩
  refine ⟨rfl, g6, k6, fun i k g => ∃ (j : Nat) (F : List Nat) (W : Nat) (nw : List (List Nat)) (M : List Nat) (st : Nat) (root : Tr3) (L1 : List Tr3) (L2 : Nat → List Tr3), i = j ∧ j ≤ na ∧ na - j = k ∧ TS h g3.next p d m 396 j g F W nw M st root L1 L2,
    ⟨_, 0, F0, 0, _, _, 1, hole, holes, fun _ => holes, rfl, Nat.zero_le _, rfl, ⟨B3.old o6, Nat.le_refl _, ⟨by decide, by decide⟩, Nat.le_refl _, by rw [new400]; decide, by simp, tree_none _ _, bi_none _, o3.trans o6, hF3, v6 F0 B3.lt, o3.1⟩⟩, ?_⟩
  rintro k8 g9 i11 ⟨j, F, W, nw, M, st, root, L1, L2, rfl, hj, rfl, S9⟩
  refine ⟨fun q5 => ?_, fun q5 => ?_⟩
  · have hjn : j < na := by omega
    obtain ⟨bb, off, rfl, hja, p16, n17, c18, hld, tx⟩ := T.at2 S9.old hjn
    generalize acts[j] = act at hld tx
    obtain ⟨kd, nn, data⟩ := act
    simp only at hld tx
    refine derefP_at ⟨by omega, q5, _, _, _, _, _, by rw [Int.toNat_natCast]; exact hld, fun g19 e19 => ?_⟩
    obtain ⟨g20, k20, n20, o20, v20⟩ := put_new e19 (vs := [.int .i64 kd, .int .i64 nn, .slice p16 n17 c18]) rfl
    have w20 := v20 F S9.po.lt
    have S20 := S9.fr (S9.po.old o20) (o20.fr F)
    refine ⟨rfl, g20, k20, _, w20.cell rfl, fun _ => (nextP kN S20.po (by have := S20.sle; omega)).mono ?_, fun _ g25 e25 => ?_⟩
    · rintro _ g23 ⟨B23, f23⟩ i24 e24
      have e24 := i64w e24 (by omega) (by omega)
      have hs := S20.sle
      refine ⟨_, by omega, j + 1, F, W, nw, M, st + 1, root, L1, L2, by rw [e24]; rfl, hjn, rfl, ⟨B23, by have := S20.w; omega, ⟨by omega, by omega⟩, by omega, by have := S20.cnt; omega, S20.len, S20.tree, S20.bi.mono (Nat.le_succ _), (f23.old S20.old S20.fresh).1, S20.fresh, S20.rt.fr f23, S20.rbl⟩⟩
    obtain ⟨p29, c31, g32, k32, o32, S32, form32, blk32⟩ := copyText (c := c18) tx S20.old e25
    have w25 := w20.old (old_of_alloc e25)
    have w32 := w20.old o32
    have T32 := S20.fr (S20.po.old o32) (o32.fr F)
    have r25 := S20.rt.old (old_of_alloc e25)
    refine ⟨_, _, _, w25.cell rfl, p29, _, c31, g32, k32, _, _, _, T32.rt.ld rfl, _, w32.cell rfl, ?_⟩
    have hda : ∀ a, p29 = some a → a.block ∉ F := fun x e z => absurd (S20.po.lt _ z) (Nat.not_lt.2 (blk32 x e))
    refine (treeSet kk kS T32.po (by have := T32.w; omega) T32.sok T32.len T32.tree nn S32 form32 hda tx.2.2.2.2 (by have := T32.cnt; omega)).mono ?_
    rintro v g38 hv
    obtain ⟨q, pr, nr, cr, e, F', W', nw', M', L1', L2', rfl, hTS⟩ : ∃ (q : Tr3) (pr : Option Addr) (nr cr : Nat) (e : Int) (F' : List Nat) (W' : Nat) (nw' : List (List Nat)) (M' : List Nat) (L1' : List Tr3) (L2' : Nat → List Tr3), v = .tuple #[qV q, .slice pr nr cr, .int .i64 e] ∧
        PO g38 p F' d m W' nw' M' st 0 ∧ Fr F g32 g38 F' ∧ W' ≤ W + 3 ∧ M.count 1 ≤ M'.count 1 + 3 ∧ nw'.length = nw.length ∧ Tree nw' M' q L1' L2' ∧ BI st q L1' L2' := by
      rcases hv with ⟨e, -, -, rfl, B38, f38⟩ | ⟨i, q0, b0, q1', q2', q3', nw1, M1, nw2, M2, nw3, M3, F', pr, nr, cr, rfl, hi, hdl, hq0, hb0, rfl, p1, p2, p3, B38, f38, -, -⟩
      · exact ⟨root, none, 0, 0, e, F, W, nw, M, L1, L2, rfl, B38, f38, by omega, by omega, rfl, T32.tree, T32.bi⟩
      · obtain ⟨t1, t2, t3, t4, -⟩ := set_step T32.tree T32.bi hi T32.sok T32.len hq0 (blk_sec hdl tx.2.2.2.2) p1 p2 p3
        exact ⟨q3', pr, nr, cr, 0, F', W + 3, nw3, M3, _, _, rfl, B38, f38, by omega, by omega, t3, t1, t2⟩
    obtain ⟨B38, f38, hW, hM, hN, t38, b38⟩ := hTS
    refine ⟨_, _, _, _, _, _, _, rfl, fun g46 e46 => ?_⟩
    obtain ⟨g47, k47, n47, o47, v47⟩ := put_new e46 (vs := qC q) rfl
    have w47 := v47 F' B38.lt
    have r47 := (T32.rt.fr f38).old o47
    obtain ⟨g51, k51, nr51, w51⟩ := r47.put (vs := qC q) rfl
    refine ⟨rfl, g47, k47, r25.ld rfl, T32.rt.ld rfl, w25.cell rfl, w32.cell rfl, _, _, _, w47.ld rfl, rfl, g51, k51, fun i52 e52 => ?_⟩
    have e52 := i64w e52 (by omega) (by omega)
    obtain ⟨oo38, hF38⟩ := f38.old T32.old T32.fresh
    have hw := T32.w
    have hc := T32.cnt
    have hs := T32.sle
    exact ⟨_, by omega, j + 1, F', W', nw', M', st, q, L1', L2', by rw [e52]; rfl, hjn, rfl, ⟨(B38.old o47).nearN nr51 r47.2.2, by omega, T32.sok, by omega, by omega, by rw [hN]; exact T32.len, t38, b38, (oo38.trans o47).near nr51 T32.rbl, hF38, w51, T32.rbl⟩⟩
  · -- what is told
    have r9 := S9.rt
    refine ⟨_, _, _, r9.ld rfl, fun mn emn => (treeAll kk kA kSi S9.po S9.tree mn).mono ?_⟩
    rintro _ g58 ⟨p59, n60, c61, rfl, B58, f58, G58⟩
    refine ⟨_, _, _, _, rfl, _, _, _, (r9.fr f58).ld rfl, fun mx emx => (treeAll kk kA kSi B58 S9.tree mx).mono ?_⟩
    rintro _ g68 ⟨p69, n70, c71, rfl, B68, f68, G68⟩
    refine ⟨_, _, _, _, rfl, (stampP kSt B68).mono ?_⟩
    rintro _ _ ⟨rfl, rfl⟩
    have r68 := (r9.fr f58).fr f68
    refine ⟨_, rfl, _, _, _, r68.ld rfl, (treeAll kk kA kSi B68 S9.tree st).mono ?_⟩
    rintro _ g80 ⟨p81, n82, c83, rfl, B80, f80, G80⟩
    have hnone : allL root L1 L2 (st : Int) = [] := by
      unfold allL
      rw [if_neg]
      intro z
      have := (of_decide_eq_true z).2
      have := S9.bi.top
      omega
    have hn82 : n82 = 0 := by have := G80.1; rw [hnone] at this; simp only [ptr3, List.map_nil, List.flatten_nil, List.length_nil] at this; omega
    refine ⟨_, _, _, _, rfl, r68.ld rfl, r68.ld rfl, fun _ => ⟨fun _ => ⟨fun _ => ⟨fun z => absurd z (by omega), fun _ g85 e85 => ?_⟩, fun z => absurd rfl z⟩, fun z => absurd rfl z⟩, fun z => absurd rfl z⟩
    have hl : ∀ sn, (allL root L1 L2 sn).length ≤ 73 := fun sn => by
      unfold allL
      split
      · have := kids_all (L1 := L1) S9.tree.l2 sn 8 (Nat.le_refl _)
        simp only [List.length_cons]
        omega
      · simp
    have hok : ∀ sn, ∀ x ∈ allL root L1 L2 sn, QOk x := fun sn x hx => by
      rw [all_filter S9.bi] at hx
      exact ordP_ok S9.tree x (List.mem_filter.1 hx).1
    have hF9 := S9.po.lt
    have hF58 := B58.lt
    have sA80 : Shows g80 p59 n60 3 (ptr3 (allL root L1 L2 mn)) := ((G58.fr f68 hF9).fr f80 hF9).shows
    have sB80 : Shows g80 p69 n70 3 (ptr3 (allL root L1 L2 mx)) := (G68.fr f80 hF58).shows
    have hn60 : n60 = (allL root L1 L2 mn).length := by have := G58.1; rw [ptr3_len] at this; omega
    have hn70 : n70 = (allL root L1 L2 mx).length := by have := G68.1; rw [ptr3_len] at this; omega
    have hlA := hl mn
    have hlB := hl mx
    have hmm : mn ≤ mx := by rw [emn, emx]; split <;> split <;> omega
    have hfin : (allL root L1 L2 mn).filter (fun q => decide (mx < (q.2.1 : Nat))) = allL root L1 L2 mx := by
      rw [all_filter S9.bi, all_filter S9.bi, List.filter_filter]
      apply List.filter_congr
      intro q _
      unfold sinceB
      by_cases z1 : q ≠ hole <;> by_cases z2 : mx < (q.2.1 : Nat)
      · have : mn < (q.2.1 : Nat) := by omega
        simp [z1, z2, this]
      · simp [z2]
      · simp [z1]
      · simp [z2]
    have hokA := hok mn
    have hokB := hok mx
    generalize allL root L1 L2 mn = A at sA80 hn60 hlA hfin hokA
    generalize allL root L1 L2 mx = B at sB80 hn70 hlB hfin hokB
    have o85 := old_of_alloc e85
    refine ⟨fun pp n c i k g => ∃ u : Nat, i = u ∧ u ≤ n60 ∧ n60 - u = k ∧ Old g80 g ∧ Grow g80.next g 29 3 pp n c (ptr3 ((A.take u).filter (fun q => decide (mx < (q.2.1 : Nat))))), ⟨_, 0, rfl, Nat.zero_le _, rfl, o85, Grow.lit e85 rfl (Nat.le_refl _)⟩, ?_⟩
    rintro k87 g88 p90 n91 c92 i93 ⟨u, rfl, hu, rfl, o88, G88⟩
    refine ⟨fun z => ?_, fun z => ?_⟩
    · have huA : u < A.length := by omega
      obtain ⟨b94, o95, rfl, hld, -⟩ := (sA80.old o88).getN (i := u) (by omega)
      rw [ptr3_get A u huA] at hld
      have htk : A.take (u + 1) = A.take u ++ [A[u]] := List.take_succ_eq_append_getElem huA
      generalize A[u] = x at hld htk
      refine derefP_at ⟨by omega, z, _, _, _, by rw [Int.toNat_natCast]; exact hld, fun g99 e99 => ?_⟩
      obtain ⟨g100, k100, n100, o100, v100⟩ := put_new e99 (vs := [.int .i64 (x.1 : Nat), .int .u64 (x.2.1 : Nat), .int .u32 (x.2.2 : Nat)]) rfl
      have w100 := v100 [] (fun c hc => by cases hc)
      refine ⟨rfl, g100, k100, _, w100.cell rfl, fun i102 e102 => ?_⟩
      rw [← emx] at e102
      subst e102
      refine ⟨fun y => ⟨_, _, _, w100.ld rfl, fun g106 e106 => ?_⟩, fun y i112 e112 => ?_⟩
      · have hn91 : n91 * 3 ≤ 73 * 3 := by
          rw [← G88.1, ptr3_len]
          exact Nat.mul_le_mul_right _ (Nat.le_trans (List.length_filter_le _ _) (by rw [List.length_take]; omega))
        obtain ⟨p107, c109, g110, k110, G110, ob110, -, -⟩ := (G88.old o100).push ePtr (by have := o88.1; have := o100.1; omega) (m := 1) (ns := ptr3 [x]) e106 rfl (by unfold roomMax; omega) (by omega)
        refine ⟨p107, _, c109, g110, k110, fun i111 e111 => ?_⟩
        have e111 := i64w e111 (by omega) (by omega)
        refine ⟨_, by omega, u + 1, by rw [e111]; rfl, by omega, rfl, ⟨by have := o88.1; have := o100.1; have := ob110.1; omega, fun c hc => by rw [ob110.2 c hc, o100.2 c (by have := o88.1; omega), o88.2 c hc]⟩, ?_⟩
        rw [htk, List.filter_append, show List.filter (fun q : Tr3 => decide (i102 < (q.2.1 : Nat))) [x] = [x] by simp [y], ptr3_app]
        exact G110
      · have e112 := i64w e112 (by omega) (by omega)
        refine ⟨_, by omega, u + 1, by rw [e112]; rfl, by omega, rfl, o88.trans o100, ?_⟩
        rw [htk, List.filter_append, show List.filter (fun q : Tr3 => decide (i102 < (q.2.1 : Nat))) [x] = [] by simp [y], List.append_nil]
        exact G88.old o100
    · have hu : u = A.length := by omega
      rw [List.take_of_length_le (by omega), hfin] at G88
      refine (refSame11 kSame (sB80.old o88) G88.shows hokB hokB (by omega)).mono ?_
      rintro _ _ ⟨rfl, rfl⟩
      exact .inl ⟨by simp, rfl⟩
theorem since_args {h : AH} {vs : List Value} (r : RdA Try.prog h 8 [22, 26, 26] vs) :
    ∃ pa na ca acts a b, vs = [.slice pa na ca, .int .u64 a, .int .u64 b] ∧ Acts h pa na acts := by
  obtain ⟨x, y, z, rfl, r1, r2, r3⟩ := rda3 r
  obtain ⟨pa, na, ca, acts, rfl, T⟩ := rd_acts (g := 4) (rdv_acts r1)
  obtain ⟨a, rfl, -⟩ := rd_u64 (g := 7) r2
  obtain ⟨b, rfl, -⟩ := rd_u64 (g := 7) r3
  exact ⟨pa, na, ca, acts, a, b, rfl, T⟩
end
end Go.Am
