/-
  TREES THAT ARE CHANGED, plain: what is put on the way to a block, births, what was born behind a stamp.
-/
import Derived.Test.YteblpmcekhcgiabCTree
set_option linter.unusedVariables false
set_option linter.unusedSimpArgs false
set_option maxRecDepth 100000
namespace Go.Am
open Go.Proofs
abbrev holes : List Tr3 := List.replicate 8 hole
/-- A node is put, or it is a hole. -/
def PutsO (nw : List (List Nat)) (M : List Nat) (st : Nat) (q : Tr3) (l : List Tr3) (nw' : List (List Nat)) (M' : List Nat) : Prop :=
  (l = holes ∧ q = hole ∧ nw' = nw ∧ M' = M) ∨ (l ≠ holes ∧ q ≠ hole ∧ Puts nw M st q (nodeB l) nw' M')
section
variable {nw nw' : List (List Nat)} {M M' : List Nat} {st : Nat}
theorem PutsO.ext {q : Tr3} {l : List Tr3} (k : PutsO nw M st q l nw' M') : Stay nw M nw' M' := by
  rcases k with ⟨-, -, rfl, rfl⟩ | ⟨-, -, k⟩
  · exact Stay.refl _ _
  · exact k.ext
theorem PutsO.len {q : Tr3} {l : List Tr3} (k : PutsO nw M st q l nw' M') : nw'.length = nw.length := by
  rcases k with ⟨-, -, rfl, rfl⟩ | ⟨-, -, k⟩
  · rfl
  · exact k.len
theorem PutsO.lies {q : Tr3} {l : List Tr3} (k : PutsO nw M st q l nw' M') (hn : nw.length ≤ 1024) (hl : l.length = 8) (hst : StOk st) : Lies nw' M' q (nodeB l) := by
  rcases k with ⟨rfl, rfl, rfl, rfl⟩ | ⟨-, -, k⟩
  · exact .inl ⟨rfl, nodeB_hole⟩
  · exact (k.lies hn (nodeB_sec hl) hst).1
theorem PutsO.birth {q : Tr3} {l : List Tr3} (k : PutsO nw M st q l nw' M') : (l = holes ∧ q = hole) ∨ (q ≠ hole ∧ q.2.1 = st) := by
  rcases k with ⟨h1, h2, -, -⟩ | ⟨-, h, i, -, -, -, rfl, -, -⟩
  · exact .inl ⟨h1, h2⟩
  · exact .inr ⟨h, rfl⟩
theorem set_nz {l : List Tr3} {i : Nat} {q : Tr3} (hi : i < l.length) (hq : q ≠ hole) : l.set i q ≠ holes := fun e => by
  have h1 : (l.set i q)[i]? = some q := by rw [List.getElem?_set, if_pos rfl, if_pos hi]
  rw [e, List.getElem?_replicate] at h1
  split at h1
  · simp only [Option.some.injEq] at h1
    exact hq h1.symm
  · cases h1
theorem Puts.o {q : Tr3} {l : List Tr3} (k : Puts nw M st q (nodeB l) nw' M') (hl : l ≠ holes) (hq : q ≠ hole) : PutsO nw M st q l nw' M' := .inr ⟨hl, hq, k⟩
def upd2 (L2 : Nat → List Tr3) (j : Nat) (l : List Tr3) : Nat → List Tr3 := fun x => if x = j then l else L2 x
/-- Another pointer to a block, and the nodes above it anew. -/
theorem Tree.upd {root : Tr3} {L1 : List Tr3} {L2 : Nat → List Tr3} (t : Tree nw M root L1 L2) {i : Nat} (hi : i < 64) {c q2 q3 : Tr3} {nw0 nw1 : List (List Nat)} {M0 M1 : List Nat} (x : Stay nw M nw0 M0) (hn : nw0.length ≤ 1024) (hst : StOk st) (hc : QOk c)
    (p2 : PutsO nw0 M0 st q2 ((L2 (i / 8)).set (i % 8) c) nw1 M1) (p3 : PutsO nw1 M1 st q3 (L1.set (i / 8) q2) nw' M') : Tree nw' M' q3 (L1.set (i / 8) q2) (upd2 L2 (i / 8) ((L2 (i / 8)).set (i % 8) c)) := by
  have hl2 := t.l2 (i / 8) (by omega)
  have y2 := p2.lies hn (by rw [List.length_set, hl2]) hst
  have y3 := p3.lies (by rw [p2.len]; exact hn) (by rw [List.length_set, t.l1]) hst
  refine ⟨by rw [List.length_set, t.l1], set_ok t.ok1 y2.ok, y3, fun j hj => ?_, fun j hj => ?_, fun j q hq => ?_⟩
  · unfold upd2
    split
    · rw [List.length_set, hl2]
    · exact t.l2 j hj
  · unfold upd2
    split
    · exact set_ok (t.ok2 (i / 8) (by omega)) hc
    · exact t.ok2 j hj
  · unfold upd2
    rw [List.getElem?_set] at hq
    split at hq
    · rename_i e
      subst e
      split at hq
      · simp only [Option.some.injEq] at hq
        subst hq
        rw [if_pos rfl]
        exact y2.ext p3.ext
      · cases hq
    · rename_i e
      rw [if_neg (fun z => e z.symm)]
      exact (((t.at2 j q hq).ext x).ext p2.ext).ext p3.ext
/-! ## Births -/
structure BI (st : Nat) (root : Tr3) (L1 : List Tr3) (L2 : Nat → List Tr3) : Prop where
  top : root.2.1 ≤ st
  one : ∀ (j : Nat) (q : Tr3), L1[j]? = some q → q ≠ hole → root ≠ hole ∧ q.2.1 ≤ root.2.1
  two : ∀ (j k : Nat) (q b : Tr3), L1[j]? = some q → (L2 j)[k]? = some b → b ≠ hole → q ≠ hole ∧ b.2.1 ≤ q.2.1
theorem BI.mono {st st' : Nat} {root : Tr3} {L1 : List Tr3} {L2 : Nat → List Tr3} (b : BI st root L1 L2) (h : st ≤ st') : BI st' root L1 L2 := ⟨Nat.le_trans b.top h, b.one, b.two⟩
theorem mem_holes {q : Tr3} {j : Nat} (h : holes[j]? = some q) : q = hole := by
  rw [List.getElem?_replicate] at h
  split at h
  · simp only [Option.some.injEq] at h
    exact h.symm
  · cases h
theorem BI.upd {root : Tr3} {L1 : List Tr3} {L2 : Nat → List Tr3} (b : BI st root L1 L2) {i : Nat} {c q2 q3 : Tr3} {nw0 nw1 : List (List Nat)} {M0 M1 : List Nat} (hc : c.2.1 ≤ st) {q0 : Tr3} (hq0 : L1[i / 8]? = some q0)
    (p2 : PutsO nw0 M0 st q2 ((L2 (i / 8)).set (i % 8) c) nw1 M1) (p3 : PutsO nw1 M1 st q3 (L1.set (i / 8) q2) nw' M') : BI st q3 (L1.set (i / 8) q2) (upd2 L2 (i / 8) ((L2 (i / 8)).set (i % 8) c)) := by
  have b2 := p2.birth
  have b3 := p3.birth
  have le1 : ∀ (j : Nat) (q : Tr3), L1[j]? = some q → q.2.1 ≤ st := fun j q hq => by
    by_cases e : q = hole
    · rw [e]; exact Nat.zero_le _
    · exact Nat.le_trans (b.one j q hq e).2 b.top
  refine ⟨?_, fun j q hq hne => ?_, fun j k q x hq hx hne => ?_⟩
  · rcases b3 with ⟨-, e⟩ | ⟨-, e⟩
    · rw [e]; exact Nat.zero_le _
    · rw [e]; exact Nat.le_refl _
  · rcases b3 with ⟨e, -⟩ | ⟨e1, e2⟩
    · rw [e] at hq
      exact absurd (mem_holes hq) hne
    · refine ⟨e1, ?_⟩
      rw [e2]
      rw [List.getElem?_set] at hq
      split at hq
      · split at hq
        · simp only [Option.some.injEq] at hq
          subst hq
          rcases b2 with ⟨-, z⟩ | ⟨-, z⟩
          · exact absurd z hne
          · rw [z]; exact Nat.le_refl _
        · cases hq
      · exact le1 j q hq
  · unfold upd2 at hx
    rw [List.getElem?_set] at hq
    by_cases e : i / 8 = j
    · subst e
      rw [if_pos rfl] at hq hx
      split at hq
      · simp only [Option.some.injEq] at hq
        subst hq
        rcases b2 with ⟨z, -⟩ | ⟨z1, z2⟩
        · rw [z] at hx
          exact absurd (mem_holes hx) hne
        · refine ⟨z1, ?_⟩
          rw [z2]
          rw [List.getElem?_set] at hx
          split at hx
          · split at hx
            · simp only [Option.some.injEq] at hx
              subst hx
              exact hc
            · cases hx
          · have := b.two _ k q0 x hq0 hx hne
            exact Nat.le_trans this.2 (le1 _ _ hq0)
      · cases hq
    · rw [if_neg e] at hq
      rw [if_neg (fun z => e z.symm)] at hx
      exact b.two j k q x hq hx hne
/-- All pointers of a tree, each node ahead of what hangs on it. -/
def sub (L1 : List Tr3) (L2 : Nat → List Tr3) (j : Nat) : List Tr3 := match L1[j]? with | some q => q :: L2 j | none => []
def ordP (root : Tr3) (L1 : List Tr3) (L2 : Nat → List Tr3) : List Tr3 := root :: (List.range 8).flatMap (sub L1 L2)
theorem since_kids {root : Tr3} {L1 : List Tr3} {L2 : Nat → List Tr3} (b : BI st root L1 L2) (sn : Int) (j : Nat) : kids L1 L2 sn j = (sub L1 L2 j).filter (sinceB sn) := by
  unfold kids sub
  cases hq : L1[j]? with
  | none => rfl
  | some q =>
    simp only
    by_cases hs : sinceB sn q = true
    · rw [if_pos hs, List.filter_cons, if_pos hs]
    · rw [if_neg hs, List.filter_cons, if_neg hs]
      symm
      rw [List.filter_eq_nil_iff]
      intro x hx hsx
      obtain ⟨k, hk⟩ := List.mem_iff_getElem?.1 hx
      have hsx := of_decide_eq_true hsx
      obtain ⟨h1, h2⟩ := b.two j k q x hq hk hsx.1
      exact hs (decide_eq_true ⟨h1, by omega⟩)
theorem all_filter {root : Tr3} {L1 : List Tr3} {L2 : Nat → List Tr3} (b : BI st root L1 L2) (sn : Int) : allL root L1 L2 sn = (ordP root L1 L2).filter (sinceB sn) := by
  have hk : (List.range 8).flatMap (kids L1 L2 sn) = ((List.range 8).flatMap (sub L1 L2)).filter (sinceB sn) := by
    rw [List.filter_flatMap]
    congr 1
    funext j
    exact since_kids b sn j
  unfold allL ordP
  by_cases hs : sinceB sn root = true
  · rw [if_pos hs, List.filter_cons, if_pos hs, hk]
  · rw [if_neg hs, List.filter_cons, if_neg hs]
    symm
    rw [List.filter_eq_nil_iff]
    intro x hx hsx
    rw [List.mem_flatMap] at hx
    obtain ⟨j, -, hx⟩ := hx
    unfold sub at hx
    cases hq : L1[j]? with
    | none => rw [hq] at hx; simp at hx
    | some q =>
      rw [hq] at hx
      have hsx := of_decide_eq_true hsx
      have hq1 : q ≠ hole → sn < (q.2.1 : Nat) → False := fun z1 z2 => by
        obtain ⟨h1, h2⟩ := b.one j q hq z1
        exact hs (decide_eq_true ⟨h1, by omega⟩)
      rcases List.mem_cons.1 hx with rfl | hx
      · exact hq1 hsx.1 hsx.2
      · obtain ⟨k, hk⟩ := List.mem_iff_getElem?.1 hx
        obtain ⟨h1, h2⟩ := b.two j k q x hq hk hsx.1
        exact hq1 h1 (by omega)
theorem ordP_ok {root : Tr3} {L1 : List Tr3} {L2 : Nat → List Tr3} (t : Tree nw M root L1 L2) : ∀ q ∈ ordP root L1 L2, QOk q := by
  intro q hq
  unfold ordP at hq
  rcases List.mem_cons.1 hq with rfl | hq
  · exact t.at1.ok
  · rw [List.mem_flatMap] at hq
    obtain ⟨j, hj, hq⟩ := hq
    have hj := List.mem_range.1 hj
    unfold sub at hq
    cases he : L1[j]? with
    | none => rw [he] at hq; simp at hq
    | some x =>
      rw [he] at hq
      rcases List.mem_cons.1 hq with rfl | hq
      · exact (t.at2 j _ he).ok
      · exact t.ok2 j hj q hq
/-- The tree of no blocks. -/
theorem tree_none (nw : List (List Nat)) (M : List Nat) : Tree nw M hole holes (fun _ => holes) := ⟨rfl, holes_ok, .inl ⟨rfl, nodeB_hole⟩, fun _ _ => rfl, fun _ _ => holes_ok, fun j q hq => .inl ⟨mem_holes hq, nodeB_hole⟩⟩
theorem bi_none (st : Nat) : BI st hole holes (fun _ => holes) := ⟨Nat.zero_le _, fun j q hq hne => absurd (mem_holes hq) hne, fun j k q b _ hb hne => absurd (mem_holes hb) hne⟩
end
section
variable {K : Xs} {h : AH}
/-- Are two lists of pointers the same? -/
theorem refSame11 (hk : K 51 = none) {p q : Option Addr} {n m c c' : Nat} {A B : List Tr3} (hA : Shows h p n 3 (ptr3 A)) (hB : Shows h q m 3 (ptr3 B)) (oA : ∀ x ∈ A, QOk x) (oB : ∀ x ∈ B, QOk x) (hn : n ≤ 1000000) :
    Wf Try.prog K 51 [.slice p n c, .slice q m c'] h fun v h' => v = .bool (decide (A = B)) ∧ h = h' := by
  have hnA : n = A.length := by have := hA.1; rw [ptr3_len] at this; omega
  have hmB : m = B.length := by have := hB.1; rw [ptr3_len] at this; omega
  subst hnA
  subst hmB
  refine vc_aquiferref11_Same hk _ _ _ _ _ _ h _ ⟨fun e => ?_, fun e => ⟨by rw [decide_eq_false (fun z => e (by rw [z]))], rfl⟩⟩
  have hlen : A.length = B.length := by omega
  refine ⟨fun i k g => ∃ j : Nat, i = j ∧ j ≤ A.length ∧ A.length - j = k ∧ h = g ∧ ∀ x, x < j → A[x]? = B[x]?, ⟨_, 0, rfl, Nat.zero_le _, rfl, rfl, fun x hx => absurd hx (Nat.not_lt_zero _)⟩, ?_⟩
  rintro k g i ⟨j, rfl, hj, rfl, rfl, hsame⟩
  refine ⟨fun z => ?_, fun z => ⟨?_, rfl⟩⟩
  · have hjA : j < A.length := by omega
    have hjB : j < B.length := by omega
    obtain ⟨b1, off1, rfl, hld1, -⟩ := hA.getN hjA
    obtain ⟨b2, off2, rfl, hld2, -⟩ := hB.getN hjB
    rw [ptr3_get A j hjA] at hld1
    rw [ptr3_get B j hjB] at hld2
    have kA := key3 (oA _ (List.getElem_mem hjA))
    have kB := key3 (oB _ (List.getElem_mem hjB))
    refine derefP_at ⟨by omega, z, _, _, _, by rw [Int.toNat_natCast]; exact hld1, derefP_at ⟨by omega, by omega, _, _, _, by rw [Int.toNat_natCast]; exact hld2, _, _, kA, kB, fun y i17 e17 => ?_, fun y => ⟨?_, rfl⟩⟩⟩
    · have e17 := i64w e17 (by omega) (by omega)
      refine ⟨_, by omega, j + 1, by rw [e17]; rfl, hjA, rfl, rfl, fun x hx => ?_⟩
      rcases Nat.lt_or_ge x j with w | w
      · exact hsame x w
      · have : x = j := by omega
        subst this
        rw [List.getElem?_eq_getElem hjA, List.getElem?_eq_getElem hjB]
        congr 1
        have := of_decide_eq_true (lits3 ▸ y)
        exact Prod.ext (by omega) (Prod.ext (by omega) (by omega))
    · rw [decide_eq_false]
      rintro rfl
      rw [lits3] at y
      simp at y
  · rw [decide_eq_true]
    apply List.ext_getElem?
    intro x
    rcases Nat.lt_or_ge x j with w | w
    · exact hsame x w
    · rw [List.getElem?_eq_none (by omega), List.getElem?_eq_none (by omega)]
theorem Mine.cell {g : AH} {F : List Nat} {b i : Nat} {cs : List Value} {ty : TypeId} {v : Value} (w : Mine g F b cs ty) (hv : cs[i]? = some v) : ld1 g b i = some v := ld1_at w.1 hv
end
section
variable {K : Xs} {h : AH} {p : Nat} {F : List Nat} {d m : Nat} {W : Nat} {nw : List (List Nat)} {M : List Nat} {st : Nat} {ba : Int}
/-- A block is set. -/
theorem set_step {root : Tr3} {L1 : List Tr3} {L2 : Nat → List Tr3} (t : Tree nw M root L1 L2) (b : BI st root L1 L2) {i : Nat} (hi : i < 64) (hst : StOk st) (hn : nw.length ≤ 1024) {q0 q1 q2 q3 : Tr3} (hq0 : L1[i / 8]? = some q0) {s : List Nat} (hs : Sec s) {nw1 nw2 nw3 : List (List Nat)} {M1 M2 M3 : List Nat}
    (p1 : Puts nw M st q1 s nw1 M1) (p2 : Puts nw1 M1 st q2 (nodeB ((L2 (i / 8)).set (i % 8) q1)) nw2 M2) (p3 : Puts nw2 M2 st q3 (nodeB (L1.set (i / 8) q2)) nw3 M3) :
    Tree nw3 M3 q3 (L1.set (i / 8) q2) (upd2 L2 (i / 8) ((L2 (i / 8)).set (i % 8) q1)) ∧ BI st q3 (L1.set (i / 8) q2) (upd2 L2 (i / 8) ((L2 (i / 8)).set (i % 8) q1)) ∧ nw3.length = nw.length ∧ M3.count 1 + 3 = M.count 1 ∧ Stay nw M nw3 M3 ∧
      PutsO nw1 M1 st q2 ((L2 (i / 8)).set (i % 8) q1) nw2 M2 ∧ PutsO nw2 M2 st q3 (L1.set (i / 8) q2) nw3 M3 ∧ q1 ≠ hole ∧ Lies nw1 M1 q1 s := by
  have hl2 := t.l2 (i / 8) (by omega)
  obtain ⟨y1, n1⟩ := p1.lies hn hs hst
  obtain ⟨y2, n2⟩ := p2.lies (by rw [p1.len]; exact hn) (nodeB_sec (by rw [List.length_set, hl2])) hst
  obtain ⟨y3, n3⟩ := p3.lies (by rw [p2.len, p1.len]; exact hn) (nodeB_sec (by rw [List.length_set, t.l1])) hst
  have r2 := p2.o (set_nz (by rw [hl2]; omega) n1) n2
  have r3 := p3.o (set_nz (by rw [t.l1]; omega) n2) n3
  have c1 := p1.cnt
  have c2 := p2.cnt
  have c3 := p3.cnt
  have hb1 : q1.2.1 ≤ st := by obtain ⟨x, -, -, -, rfl, -, -⟩ := p1; exact Nat.le_refl _
  exact ⟨t.upd hi p1.ext (by rw [p1.len]; exact hn) hst y1.ok r2 r3, b.upd hb1 hq0 r2 r3, by rw [p3.len, p2.len, p1.len], by omega, (p1.ext.trans p2.ext).trans p3.ext, r2, r3, n1, y1⟩
end
end Go.Am
