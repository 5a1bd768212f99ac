/-
  WHICH BLOCKS THERE ARE.
-/
import Derived.Test.YteblpmcekhcgiabCTrim
set_option linter.unusedVariables false
set_option linter.unusedSimpArgs false
set_option maxRecDepth 100000
namespace Go.Am
open Go.Proofs
def blkP (L2 : Nat → List Tr3) (k : Nat) : Tr3 := ((L2 (k / 8))[k % 8]?).getD hole
def blL (L2 : Nat → List Tr3) (n : Nat) : List Nat := (List.range n).filter fun k => decide (blkP L2 k ≠ hole)
theorem blL_succ (L2 : Nat → List Tr3) (n : Nat) : blL L2 (n + 1) = if blkP L2 n ≠ hole then blL L2 n ++ [n] else blL L2 n := by
  unfold blL
  rw [List.range_succ, List.filter_append]
  by_cases h : blkP L2 n ≠ hole
  · rw [if_pos h]; simp [h]
  · rw [if_neg h]; simp at h; simp [h]
theorem blL_skip (L2 : Nat → List Tr3) (n : Nat) : ∀ m, (∀ k, n ≤ k → k < n + m → blkP L2 k = hole) → blL L2 (n + m) = blL L2 n
  | 0, _ => rfl
  | m + 1, h => by
    rw [show n + (m + 1) = (n + m) + 1 by omega, blL_succ, if_neg (fun z => z (h (n + m) (by omega) (by omega)))]
    exact blL_skip L2 n m fun k h1 h2 => h k h1 (by omega)
theorem blL_len (L2 : Nat → List Tr3) (n : Nat) : (blL L2 n).length ≤ n := Nat.le_trans (List.length_filter_le _ _) (by simp)
theorem blL_mem {L2 : Nat → List Tr3} {n k : Nat} : k ∈ blL L2 n ↔ k < n ∧ blkP L2 k ≠ hole := by
  unfold blL
  rw [List.mem_filter, List.mem_range]
  simp
theorem eInt1 : ElemOk Try.prog 70 3 1 8 := ElemOk_of (by kernel_rfl)
section
variable {K : Xs} {h : AH} {p : Nat} {F : List Nat} {d m : Nat} {W : Nat} {nw : List (List Nat)} {M : List Nat} {st : Nat} {ba : Int}
/-- What hangs on a hole: holes. -/
theorem Tree.hole2 {root : Tr3} {L1 : List Tr3} {L2 : Nat → List Tr3} (t : Tree nw M root L1 L2) {j : Nat} (hj : j < 8) (h : L1[j]? = some hole) : L2 j = holes := by
  have l := t.at2 j hole h
  rcases l with ⟨-, e⟩ | ⟨z, -⟩
  · have h1 := nodeD_B (t.l2 j hj) (t.ok2 j hj)
    rw [← h1, e, ← nodeB_hole]
    exact nodeD_B (by simp) holes_ok
  · exact absurd rfl z
theorem blkP_at {L2 : Nat → List Tr3} {j u : Nat} (hu : u < 8) {x : Tr3} (hx : (L2 j)[u]? = some x) : blkP L2 (8 * j + u) = x := by
  unfold blkP
  rw [show (8 * j + u) / 8 = j by omega, show (8 * j + u) % 8 = u by omega, hx]
  rfl
theorem treeBlocks (kk : KTree K) (kB : K 35 = none) (B : PO h p F d m W nw M st ba) {root : Tr3} {L1 : List Tr3} {L2 : Nat → List Tr3} (t : Tree nw M root L1 L2) :
    Wf Try.prog K 35 [.pointer (some ⟨p, 0, none⟩), qV root] h fun v h' => ∃ pp n c, v = .tuple #[.slice pp n c, .int .i64 0] ∧ PO h' p F d m W nw M st ba ∧ Fr F h h' F ∧ Grow h.next h' 3 1 pp n c (natC .i64 (blL L2 64)) := by
  have z24 : (ptr3 L1).length = 24 := by rw [ptr3_len, t.l1]
  refine vc_tree_Blocks kB _ _ _ _ h _ fun g0 e0 => ?_
  have o0 := old_of_alloc e0
  have n0 := next_of_alloc e0
  have w0 := own_new e0 B.lt
  have hFh := B.lt
  refine ⟨_, _, _, w0.ld rfl, (load' kk (B.old o0) t.l1 t.ok1 t.at1).mono ?_⟩
  rintro _ g5 ⟨rfl, B5, f5⟩
  refine ⟨_, _, rfl, fun g8 e8 => ?_⟩
  obtain ⟨g9, k9, n9, o9, v9⟩ := put_new e8 (vs := ptr3 L1) (by rw [z24]; rfl)
  have f9 : Fr F h g9 F := ((o0.fr F).trans f5).trans (o9.fr F)
  refine ⟨z24, g9, k9, fun _ => ⟨_, (v9 F B5.lt).ld z24, fun pp n c i k g => ∃ j : Nat, i = j ∧ j ≤ 8 ∧ 8 - j = k ∧ PO g p F d m W nw M st ba ∧ Fr F h g F ∧ Grow h.next g 3 1 pp n c (natC .i64 (blL L2 (8 * j))), ⟨_, 0, rfl, by decide, rfl, B5.old o9, f9, Grow.nil _ _ _ _⟩, ?_⟩, fun z => absurd rfl z⟩
  rintro k12 g13 p15 n16 c17 i18 ⟨j, rfl, hj, rfl, B13, f13, G13⟩
  refine ⟨fun z => ?_, fun z => ?_⟩
  · have hj8 : j < L1.length := by rw [t.l1]; omega
    have hqe : L1[j]? = some L1[j] := List.getElem?_eq_getElem hj8
    have hg := ptr3_get L1 j hj8
    generalize L1[j] = q at hqe hg
    have lq := t.at2 j q hqe
    have hl2 := t.l2 j (by omega)
    refine ⟨by omega, z, ((q.1 : Nat) : Int), ((q.2.1 : Nat) : Int), ((q.2.2 : Nat) : Int), by rw [Int.toNat_natCast]; exact hg, fun g22 e22 => ?_⟩
    obtain ⟨g23, k23, n23, o23, v23⟩ := put_new e22 (vs := [.int .i64 (q.1 : Nat), .int .u64 (q.2.1 : Nat), .int .u32 (q.2.2 : Nat)]) rfl
    have w23 := v23 F B13.lt
    have B23 := B13.old o23
    have G23 := G13.old o23
    refine ⟨rfl, g23, k23, _, _, _, w23.ld rfl, _, _, key3 lq.ok, kHole, fun e i29 e29 => ?_, fun e => ⟨_, _, _, w23.ld rfl, (load' kk B23 hl2 (t.ok2 j (by omega)) lq).mono ?_⟩⟩
    · rw [hole3] at e
      have e := of_decide_eq_true e
      subst e
      have e29 := i64w e29 (by omega) (by omega)
      have hh := t.hole2 (by omega) hqe
      refine ⟨_, by omega, j + 1, by rw [e29]; rfl, by omega, rfl, B23, f13.trans (o23.fr F), ?_⟩
      rw [show 8 * (j + 1) = 8 * j + 8 by omega, blL_skip L2 (8 * j) 8 fun k h1 h2 => ?_]
      · exact G23
      · unfold blkP
        rw [show k / 8 = j by omega, hh, List.getElem?_replicate, if_pos (by omega)]
        rfl
    rintro _ g34 ⟨rfl, B34, f34⟩
    have y24 : (ptr3 (L2 j)).length = 24 := by rw [ptr3_len, hl2]
    refine ⟨_, _, rfl, fun g37 e37 => ?_⟩
    obtain ⟨g38, k38, n38, o38, v38⟩ := put_new e37 (vs := ptr3 (L2 j)) (by rw [y24]; rfl)
    have f38 : Fr F h g38 F := ((f13.trans (o23.fr F)).trans f34).trans (o38.fr F)
    refine ⟨y24, g38, k38, fun _ => ⟨_, (v38 F B34.lt).ld y24, fun pp n c i k g => ∃ u : Nat, i = u ∧ u ≤ 8 ∧ 8 - u = k ∧ PO g p F d m W nw M st ba ∧ Fr F h g F ∧ Grow h.next g 3 1 pp n c (natC .i64 (blL L2 (8 * j + u))), ⟨_, 0, rfl, by decide, rfl, B34.old o38, f38, (G23.fr f34 hFh).old o38⟩, ?_⟩, fun z => absurd rfl z⟩
    rintro k41 g42 p44 n45 c46 i47 ⟨u, rfl, hu, rfl, B42, f42, G42⟩
    have hn45 : n45 ≤ 64 := by
      have := G42.1
      rw [natC_len] at this
      have := blL_len L2 (8 * j + u)
      omega
    refine ⟨fun y => ?_, fun y => ?_⟩
    · have hu8 : u < (L2 j).length := by omega
      have hg2 := ptr3_get (L2 j) u hu8
      have hok := t.ok2 j (by omega) _ (List.getElem_mem hu8)
      have hb := blkP_at (L2 := L2) (j := j) (show u < 8 by omega) (List.getElem?_eq_getElem hu8)
      generalize (L2 j)[u] = x at hg2 hok hb
      have hs := blL_succ L2 (8 * j + u)
      rw [hb] at hs
      refine ⟨by omega, y, ((x.1 : Nat) : Int), ((x.2.1 : Nat) : Int), ((x.2.2 : Nat) : Int), by rw [Int.toNat_natCast]; exact hg2, fun g51 e51 => ?_⟩
      obtain ⟨g52, k52, n52, o52, v52⟩ := put_new e51 (vs := [.int .i64 (x.1 : Nat), .int .u64 (x.2.1 : Nat), .int .u32 (x.2.2 : Nat)]) rfl
      have w52 := v52 F B42.lt
      have B52 := B42.old o52
      have f52 : Fr F h g52 F := f42.trans (o52.fr F)
      have G52 := G42.old o52
      refine ⟨rfl, g52, k52, _, _, _, w52.ld rfl, _, _, key3 hok, kHole, fun e i58 e58 => ?_, fun e i59 e59 i60 e60 g61 e61 => ?_⟩
      · rw [hole3] at e
        have e := of_decide_eq_true e
        have e58 := i64w e58 (by omega) (by omega)
        refine ⟨_, by omega, u + 1, by rw [e58]; rfl, by omega, rfl, B52, f52, ?_⟩
        rw [← Nat.add_assoc, hs, if_neg (fun z => z e)]
        exact G52
      · rw [hole3] at e
        have e := of_decide_eq_false e
        have e59 := i64w e59 (by omega) (by omega)
        subst e59
        have e60 := i64w e60 (by omega) (by omega)
        have e60 : i60 = ((8 * j + u : Nat) : Int) := by omega
        subst e60
        obtain ⟨p62, c64, g65, k65, G65, ob65, -, -⟩ := G52.push eInt1 f52.1 (m := 1) e61 rfl (by unfold roomMax; omega) (by omega)
        refine ⟨p62, _, c64, g65, k65, fun i66 e66 => ?_⟩
        have e66 := i64w e66 (by omega) (by omega)
        refine ⟨_, by omega, u + 1, by rw [e66]; rfl, by omega, rfl, B52.imp fun Fd z => z.keep ob65.1 (fun c hc => ob65.2 c (hFh c hc)), ⟨Nat.le_trans f52.1 ob65.1, fun c hc hn => by rw [ob65.2 c hc, f52.2.1 c hc hn], fun c hc => .inl hc⟩, ?_⟩
        rw [← Nat.add_assoc, hs, if_pos e, natC_app]
        exact G65
    · intro i67 e67
      have e67 := i64w e67 (by omega) (by omega)
      have hu8 : u = 8 := by omega
      subst hu8
      exact ⟨_, by omega, j + 1, by rw [e67]; rfl, by omega, rfl, B42, f42, G42⟩
  · have hj8 : j = 8 := by omega
    subst hj8
    exact ⟨_, _, _, rfl, B13, f13, G13⟩
end
end Go.Am
