/-
  THE DEVICE in this program, with its power on: what is written, read, rotten.
-/
import Derived.Test.YteblpmcekhcgiadAmH
import Derived.Test.YteblpmcekhcgiadVPile
set_option linter.unusedVariables false
set_option linter.unusedSimpArgs false
namespace Go.Am
open Go.Proofs
abbrev tDev : TypeId := 72
abbrev tSec : TypeId := 46
abbrev tWr : TypeId := 74
/-- A sector's bytes. -/
def Sec (s : List Nat) : Prop := s.length = 128 ∧ ∀ x ∈ s, x < 256
def secC (s : List Nat) : List Value := natC .u8 s
theorem secC_len {s : List Nat} (hs : Sec s) : (secC s).length = 128 := by rw [secC, natC_len]; exact hs.1
def secsC (nw : List (List Nat)) : List Value := (nw.map secC).flatten
theorem secsC_len {nw : List (List Nat)} (h : ∀ s ∈ nw, Sec s) : (secsC nw).length = nw.length * 128 := by
  induction nw with
  | nil => rfl
  | cons s nw ih =>
    simp only [secsC, List.map_cons, List.flatten_cons, List.length_append, List.length_cons]
    have := ih fun s hs => h s (List.mem_cons_of_mem _ hs)
    rw [secsC] at this
    rw [this, secC_len (h s (List.mem_cons_self ..))]
    omega
theorem secsC_get : ∀ {nw : List (List Nat)} (h : ∀ s ∈ nw, Sec s) {i : Nat} (hi : i < nw.length), ((secsC nw).drop (i * 128)).take 128 = secC nw[i]
  | [], h, i, hi => absurd hi (Nat.not_lt_zero _)
  | s :: nw, h, i, hi => by
    have hs := secC_len (h s (List.mem_cons_self ..))
    have e : secsC (s :: nw) = secC s ++ secsC nw := rfl
    rw [e]
    cases i with
    | zero => rw [Nat.zero_mul, List.drop_zero, ← hs, List.take_left]; rfl
    | succ i =>
      rw [List.drop_append, List.drop_eq_nil_of_le (by omega), List.nil_append, hs, show (i + 1) * 128 - 128 = i * 128 by omega]
      exact secsC_get (fun s hs => h s (List.mem_cons_of_mem _ hs)) (by simpa using hi)
theorem secsC_set : ∀ {nw : List (List Nat)} (h : ∀ s ∈ nw, Sec s) {i : Nat} (hi : i < nw.length) {s : List Nat} (hs : Sec s), (secsC nw).take (i * 128) ++ secC s ++ (secsC nw).drop (i * 128 + 128) = secsC (nw.set i s)
  | [], h, i, hi, _, _ => absurd hi (Nat.not_lt_zero _)
  | t :: nw, h, i, hi, s, hs => by
    have ht := secC_len (h t (List.mem_cons_self ..))
    have e : secsC (t :: nw) = secC t ++ secsC nw := rfl
    rw [e]
    cases i with
    | zero =>
      rw [Nat.zero_mul, List.take_zero, List.nil_append, Nat.zero_add, List.drop_append, List.drop_eq_nil_of_le (by omega), List.nil_append, ht]
      rfl
    | succ i =>
      have ih := secsC_set (fun s hs => h s (List.mem_cons_of_mem _ hs)) (i := i) (by simpa using hi) hs
      rw [List.take_append, List.take_of_length_le (by omega), ht, show (i + 1) * 128 - 128 = i * 128 by omega, List.drop_append, List.drop_eq_nil_of_le (by omega), List.nil_append, ht, show (i + 1) * 128 + 128 - 128 = i * 128 + 128 by omega]
      have e2 : secsC ((t :: nw).set (i + 1) s) = secC t ++ secsC (nw.set i s) := rfl
      rw [e2, ← ih]
      simp
/-- Writes that aren't stable: of each the sector, and any cells. -/
def PendOk (pcs : List Value) (n : Nat) : Prop := pcs.length = n * 129 ∧ ∀ i, i < n → ∃ x : Int, pcs[i * 129]? = some (.int .i64 x)
/-- A device: its block, all its blocks, at most so many writes that aren't stable, the newest of each sector. -/
structure DevO (h : AH) (d : Nat) (F : List Nat) (W : Nat) (nw : List (List Nat)) : Prop where
  intro ::
  ex : ∃ (bs bn : Nat) (pp : Option Addr) (pn pc : Nat) (ops : Int) (pcs st : List Value),
    h.get d = some (.cells [.slice (some ⟨bs, 0, none⟩) nw.length nw.length, .slice (some ⟨bn, 0, none⟩) nw.length nw.length, .slice pp pn pc, .int .i64 ops, .int .i64 (-1), .bool false] tDev false) ∧
    h.get bs = some (.cells st tSec false) ∧ st.length = nw.length * 128 ∧ h.get bn = some (.cells (secsC nw) tSec false) ∧ Grow 0 h tWr 129 pp pn pc pcs ∧ PendOk pcs pn ∧ pn ≤ W ∧
    0 ≤ ops ∧ ops ≤ 4611686018427387903 ∧ F = [d, bs, bn] ++ bl pp ∧ F.Nodup ∧ ∀ c ∈ F, c < h.next
  secs : ∀ s ∈ nw, Sec s
  len : nw.length ≤ 1024
theorem DevO.keep {h h' : AH} {d : Nat} {F : List Nat} {W : Nat} {nw : List (List Nat)} (D : DevO h d F W nw) (hn : h.next ≤ h'.next) (hg : ∀ c ∈ F, h'.get c = h.get c) : DevO h' d F W nw := by
  obtain ⟨⟨bs, bn, pp, pn, pc, ops, pcs, st, g1, g2, g3, g4, g5, g6, g6b, g7, g8, g9, g10, g11⟩, s1, s2⟩ := D
  refine ⟨⟨bs, bn, pp, pn, pc, ops, pcs, st, ?_, ?_, g3, ?_, ?_, g6, g6b, g7, g8, g9, g10, fun c hc => Nat.lt_of_lt_of_le (g11 c hc) hn⟩, s1, s2⟩
  · rw [hg d (by rw [g9]; simp), g1]
  · rw [hg bs (by rw [g9]; simp), g2]
  · rw [hg bn (by rw [g9]; simp), g4]
  · refine ⟨g5.1, ?_⟩
    rcases g5.2 with q | ⟨b, hp, hl, hb, hgb, hc⟩
    · exact .inl q
    · refine .inr ⟨b, hp, hl, Nat.lt_of_lt_of_le hb hn, ?_, hc⟩
      rw [hg b (by rw [g9, hp]; simp [bl]), hgb]
section
variable {K : Xs} {h : AH} {d : Nat} {F : List Nat} {W : Nat} {nw : List (List Nat)}
theorem devHas (hk : K 28 = none) (D : DevO h d F W nw) (i : Int) :
    Wf Try.prog K 28 [.pointer (some ⟨d, 0, none⟩), .int .i64 i] h fun v h' => v = .bool (decide (0 ≤ i ∧ i < nw.length)) ∧ h = h' := by
  obtain ⟨⟨bs, bn, pp, pn, pc, ops, pcs, st, g1, g2⟩, -, -⟩ := D
  refine vc_vdev_Dev_has hk _ _ h _ ⟨fun q => derefP_at ⟨_, _, _, ld1_at g1 rfl, fun q2 => ⟨by rw [decide_eq_true ⟨q, q2⟩], rfl⟩, fun q2 => ⟨by rw [decide_eq_false (fun z => q2 z.2)], rfl⟩⟩, fun q => ⟨by rw [decide_eq_false (fun z => q z.1)], rfl⟩⟩
theorem devCount (hk : K 27 = none) (D : DevO h d F W nw) :
    Wf Try.prog K 27 [.pointer (some ⟨d, 0, none⟩)] h fun v h' => DevO h' d F W nw ∧ Near d h h' := by
  have D0 := D
  obtain ⟨⟨bs, bn, pp, pn, pc, ops, pcs, st, g1, g2, g3, g4, g5, g6, g6b, g7, g8, g9, g10, g11⟩, s1, s2⟩ := D
  refine vc_vdev_Dev_count hk _ h _ (derefP_at ⟨ops, ld1_at g1 rfl, fun q => derefP_at ⟨ops, ld1_at g1 rfl, fun i e => derefP_at ⟨_, st1_of g1 (by simp), ?_⟩⟩, fun q => ⟨D0, Near.refl _ _⟩⟩)
  have e := i64w e (by omega) (by omega)
  subst e
  have hn := near_set d h (.cells [.slice (some ⟨bs, 0, none⟩) nw.length nw.length, .slice (some ⟨bn, 0, none⟩) nw.length nw.length, .slice pp pn pc, .int .i64 (ops + 1), .int .i64 (-1), .bool false] tDev false)
  have nd := g10
  rw [g9] at nd
  refine ⟨⟨⟨bs, bn, pp, pn, pc, ops + 1, pcs, st, get_set_self _ _ _, ?_, g3, ?_, ?_, g6, g6b, by omega, by omega, g9, g10, g11⟩, s1, s2⟩, hn⟩
  · rw [get_set_ne (by simp at nd; omega), g2]
  · rw [get_set_ne (by simp at nd; omega), g4]
  · refine ⟨g5.1, ?_⟩
    rcases g5.2 with q | ⟨b, hp, hl, hb, hgb, hc⟩
    · exact .inl q
    · subst hp
      exact .inr ⟨b, rfl, hl, hb, by rw [get_set_ne (by simp [bl] at nd; omega)]; exact hgb, hc⟩
theorem devSpend (hk : K 56 = none) (D : DevO h d F W nw) :
    Wf Try.prog K 56 [.pointer (some ⟨d, 0, none⟩)] h fun v h' => v = .bool true ∧ h = h' := by
  obtain ⟨⟨bs, bn, pp, pn, pc, ops, pcs, st, g1, g2⟩, -, -⟩ := D
  exact vc_vdev_Dev_spend hk _ h _ (derefP_at ⟨-1, ld1_at g1 rfl, fun q => absurd q (by decide), fun q => derefP_at (.inr ⟨ld1_at g1 rfl, derefP_at ⟨-1, ld1_at g1 rfl, fun q => absurd q (by decide), fun q => ⟨rfl, rfl⟩⟩⟩)⟩)
theorem zWr : zeroCellsOf Try.prog 74 = some ((.int .i64 0) :: List.replicate 128 (.int .u8 0)) := by kernel_rfl
theorem bWr (x : Int) {l : List Value} (hl : l.length = 128) : aBuild Try.prog 74 #[(0, .int .i64 x), (1, .agg l.toArray)] = some (.agg (.int .i64 x :: l).toArray) := by
  refine build_struct zWr (pl := [(0, 1), (1, 128)]) (by kernel_rfl) (by simp [isTup]) ?_
  simp [fillL, Value.cells, hl]
theorem PendOk.push {pcs : List Value} {n : Nat} (p : PendOk pcs n) (x : Int) {l : List Value} (hl : l.length = 128) : PendOk (pcs ++ (.int .i64 x :: l)) (n + 1) := by
  refine ⟨by rw [List.length_append, p.1, List.length_cons, hl]; omega, fun i hi => ?_⟩
  by_cases q : i < n
  · rw [List.getElem?_append_left (by rw [p.1]; omega)]
    exact p.2 i q
  · have : i = n := by omega
    subst this
    refine ⟨x, ?_⟩
    rw [List.getElem?_append_right (by rw [p.1]; exact Nat.le_refl _), p.1, Nat.sub_self]
    rfl
theorem devWrite (hk : K 48 = none) (h1 : K 27 = none) (h2 : K 28 = none) (h3 : K 56 = none) (D : DevO h d F W nw) (hW : W < 100000) (i : Int) {s : List Nat} (hs : Sec s) :
    Wf Try.prog K 48 [.pointer (some ⟨d, 0, none⟩), .int .i64 i, .agg (secC s).toArray] h fun v h' =>
      (0 ≤ i ∧ i < nw.length ∧ v = .int .i64 0 ∧ ∃ F', DevO h' d F' (W + 1) (nw.set i.toNat s) ∧ Fr F h h' F') ∨ (¬ (0 ≤ i ∧ i < nw.length) ∧ v = .int .i64 41 ∧ DevO h' d F W nw ∧ Fr F h h' F) := by
  refine vc_vdev_Dev_Write hk _ _ _ h _ fun h0 e0 => ?_
  have o0 : Old h h0 := by rw [e0]; exact Old_alloc _ _
  have hg0 : h0.get h.next = some (.cells (secC s) tSec false) := by rw [e0]; exact get_alloc_next _ _
  have hdF : ∀ {g : AH}, DevO g d F W nw → d ∈ F := fun D => by obtain ⟨⟨_, _, _, _, _, _, _, _, _, _, _, _, _, _, _, _, _, g9, _, _⟩, _, _⟩ := D; rw [g9]; simp
  have hF : ∀ c ∈ F, c < h.next := by obtain ⟨⟨_, _, _, _, _, _, _, _, _, _, _, _, _, _, _, _, _, _, _, g11⟩, _, _⟩ := D; exact g11
  have D0 : DevO h0 d F W nw := D.keep o0.1 fun c hc => o0.2 c (hF c hc)
  refine (devCount h1 D0).mono ?_
  rintro _ g2 ⟨D2, n2⟩
  have f2 : Fr F h g2 F := (o0.fr F).trans (n2.fr (hdF D0))
  have hne : h.next ≠ d := fun q => absurd (hF d (hdF D)) (by omega)
  have hg2 : g2.get h.next = some (.cells (secC s) tSec false) := by rw [n2.2 _ hne, hg0]
  refine (devHas h2 D2 i).mono ?_
  rintro _ g ⟨rfl, rfl⟩
  by_cases q : 0 ≤ i ∧ i < nw.length
  rotate_left
  · exact .inr ⟨by rw [decide_eq_false q], .inr ⟨q, rfl, D2, f2⟩⟩
  refine .inl ⟨by rw [decide_eq_true q], (devSpend h3 D2).mono ?_⟩
  rintro _ g ⟨rfl, rfl⟩
  refine .inl ⟨rfl, ?_⟩
  obtain ⟨⟨bs, bn, pp, pn, pc, ops, pcs, st, g1, g2', g3, g4, g5, g6, g6b, g7, g8, g9, g10, g11⟩, s1, s2⟩ := D2
  have nd := g10
  rw [g9] at nd
  have hn2 : h.next < g2.next := by rw [n2.1, e0]; exact Nat.lt_succ_self _
  have hsl := secC_len hs
  have hbs : bs < h.next := hF bs (by rw [g9]; simp)
  have hbn : bn < h.next := hF bn (by rw [g9]; simp)
  have hd : d < h.next := hF d (by rw [g9]; simp)
  refine derefP_at ⟨pp, pn, pc, ld1_at g1 rfl, secC s, ldN_all hg2 hsl, _, bWr _ hsl, _, _, _, _, buildSlice_one (elem := tWr) (by' := 136) (sz := 129) (ElemOk_of (by kernel_rfl)) zWr rfl (by decide) (by rw [List.length_cons, hsl]), ?_⟩
  obtain ⟨p', c', h5, ha, hgr, hob, hap, hfr⟩ := g5.push (ElemOk_of (P := Try.prog) (st := 70) (by' := 136) (by kernel_rfl)) (Nat.zero_le _) (ns := .int .i64 i :: secC s) (m := 1) (h4 := g2.alloc (.cells (.int .i64 i :: secC s) tWr false)) rfl (by rw [List.length_cons, hsl]) (by unfold roomMax; omega) (by omega)
  obtain ⟨b', rfl, hb'⟩ := hfr (by decide)
  have hap' : ∀ b, b < g2.next → b ∉ bl pp → h5.get b = g2.get b := fun b hb hn => hap b hb (by
    cases pp with
    | none => trivial
    | some a => exact fun q => hn (by simp [bl, q]))
  have k1 : h5.get d = _ := (hap' d (by omega) (by simp at nd; cases pp <;> simp [bl] at nd ⊢; omega)).trans g1
  have k2 : h5.get bs = _ := (hap' bs (by omega) (by simp at nd; cases pp <;> simp [bl] at nd ⊢; omega)).trans g2'
  have k3 : h5.get bn = _ := (hap' bn (by omega) (by simp at nd; cases pp <;> simp [bl] at nd ⊢; omega)).trans g4
  have k4 : h5.get h.next = _ := (hap' h.next hn2 (by
    cases pp with
    | none => simp [bl]
    | some a =>
      have := hF a.block (by rw [g9]; simp [bl])
      simp [bl]; omega)).trans hg2
  refine ⟨_, pn + 1, c', h5, ha, derefP_at ⟨_, st1_of k1 (by simp), derefP_at ⟨some ⟨bn, 0, none⟩, nw.length, nw.length, ld1_at (get_set_self _ _ _) rfl, secC s, ldN_all (by rw [get_set_ne hne]; exact k4) hsl, derefP_at ⟨q.1, q.2, hsl, ?_⟩⟩⟩⟩
  obtain ⟨N, rfl⟩ : ∃ N : Nat, i = N := ⟨i.toNat, by omega⟩
  have hN : N < nw.length := by omega
  have hbd : bn ≠ d := by simp at nd; omega
  have hbl : bl (some ⟨b', 0, none⟩) = [b'] := rfl
  obtain ⟨bq, hpq, -, hbq, hgq, hcq⟩ := hgr.2.resolve_left (fun z => by omega)
  simp only [Option.some.injEq, Addr.mk.injEq] at hpq
  obtain ⟨rfl, -, -⟩ := hpq
  refine ⟨_, stN_of (by rw [get_set_ne hbd]; exact k3) (by rw [hsl, secsC_len s1]; simp; omega), .inl ⟨q.1, q.2, rfl, [d, bs, bn] ++ [b'], ?_, ?_⟩⟩
  · simp only [hsl, Int.toNat_natCast, Nat.zero_add]
    rw [secsC_set s1 hN hs]
    refine ⟨⟨bs, bn, some ⟨b', 0, none⟩, pn + 1, c', ops, pcs ++ (.int .i64 N :: secC s), st, ?_, ?_, by rw [List.length_set]; exact g3, get_set_self _ _ _, ⟨hgr.1, .inr ⟨b', rfl, Nat.zero_le _, hbq, ?_, hcq⟩⟩, g6.push _ hsl, by omega, g7, g8, rfl, ?_, ?_⟩, ?_, by rw [List.length_set]; exact s2⟩
    · rw [List.length_set, get_set_ne (by omega), get_set_self]; rfl
    · rw [get_set_ne (by simp at nd; omega), get_set_ne (by simp at nd; omega)]; exact k2
    · rw [get_set_ne (by omega), get_set_ne (by omega)]; exact hgq
    · simp at nd
      simp
      omega
    · intro c hc
      simp only [AH.next_set]
      have := hob.1
      simp at hc
      omega
    · intro s' hs'
      rcases List.mem_or_eq_of_mem_set hs' with z | z
      · exact s1 s' z
      · rw [z]; exact hs
  · have fpush : Fr F g2 h5 ([d, bs, bn] ++ [b']) := by
      refine ⟨hob.1, fun c hc hn => hap' c hc (fun z => hn (by rw [g9, List.mem_append]; exact .inr z)), fun c hc => ?_⟩
      rw [List.mem_append] at hc
      rcases hc with hc | hc
      · exact .inl (by rw [g9, List.mem_append]; exact .inl hc)
      · simp at hc
        exact .inr (by omega)
    refine f2.trans (fpush.trans ⟨by simp, fun c hc hn => ?_, fun c hc => .inl hc⟩)
    have e1 : c ≠ bn := fun z => hn (by rw [z]; simp)
    have e2 : c ≠ d := fun z => hn (by rw [z]; simp)
    rw [get_set_ne e1, get_set_ne e2]
theorem zSec : aBuild Try.prog 46 #[] = some (.agg (List.replicate 128 (Value.int .u8 0)).toArray) := by kernel_rfl
theorem secC_zero : List.replicate 128 (Value.int .u8 0) = secC (List.replicate 128 0) := by
  unfold secC natC
  rw [List.map_replicate]
  rfl
theorem sec_zero : Sec (List.replicate 128 0) := ⟨by simp, fun x hx => by rw [List.mem_replicate] at hx; omega⟩
theorem DevO.mem {g : AH} (D : DevO g d F W nw) : d ∈ F := by obtain ⟨⟨_, _, _, _, _, _, _, _, _, _, _, _, _, _, _, _, _, g9, _, _⟩, _, _⟩ := D; rw [g9]; simp
theorem DevO.lt {g : AH} (D : DevO g d F W nw) : ∀ c ∈ F, c < g.next := by obtain ⟨⟨_, _, _, _, _, _, _, _, _, _, _, _, _, _, _, _, _, _, _, g11⟩, _, _⟩ := D; exact g11
theorem DevO.old {g g' : AH} (D : DevO g d F W nw) (o : Old g g') : DevO g' d F W nw := D.keep o.1 fun c hc => o.2 c (D.lt c hc)
theorem DevO.nearN {g g' : AH} {b : Nat} (D : DevO g d F W nw) (n : Near b g g') (hb : b ∉ F) : DevO g' d F W nw := D.keep (by rw [n.1]; exact Nat.le_refl _) fun c hc => n.2 c (fun q => hb (q ▸ hc))
theorem devRead (hk : K 14 = none) (h1 : K 27 = none) (h2 : K 28 = none) (D : DevO h d F W nw) (i : Int) :
    Wf Try.prog K 14 [.pointer (some ⟨d, 0, none⟩), .int .i64 i] h fun v h' => DevO h' d F W nw ∧ Fr F h h' F ∧
      ((∃ s, 0 ≤ i ∧ nw[i.toNat]? = some s ∧ v = .tuple #[.agg (secC s).toArray, .int .i64 0]) ∨ (¬ (0 ≤ i ∧ i < nw.length) ∧ v = .tuple #[.agg (secC (List.replicate 128 0)).toArray, .int .i64 41])) := by
  refine vc_vdev_Dev_Read hk _ _ h _ fun h0 e0 => ?_
  have o0 : Old h h0 := by rw [e0]; exact Old_alloc _ _
  have D0 := D.old o0
  have hnF : h.next ∉ F := fun q => absurd (D.lt _ q) (Nat.lt_irrefl _)
  have hg0 : h0.get h.next = some (.cells (List.replicate 128 (.int .u8 0)) tSec false) := by rw [e0]; exact get_alloc_next _ _
  refine (devCount h1 D0).mono ?_
  rintro _ g2 ⟨D2, n2⟩
  have f2 : Fr F h g2 F := (o0.fr F).trans (n2.fr D0.mem)
  have hne : h.next ≠ d := fun q => hnF (q ▸ D0.mem)
  have hg2 : g2.get h.next = some (.cells (List.replicate 128 (.int .u8 0)) tSec false) := by rw [n2.2 _ hne, hg0]
  have fin : ∀ {vs : List Value}, vs.length = 128 → ∃ g3, stN g2 h.next 0 vs = some g3 ∧ ldN g3 h.next 0 128 = some vs ∧ DevO g3 d F W nw ∧ Fr F h g3 F := by
    intro vs hvs
    refine ⟨_, stN_all hg2 (by rw [hvs]; simp), ldN_all (get_set_self _ _ _) hvs, D2.nearN (near_set _ _ _) hnF, ?_⟩
    exact ⟨f2.1, fun c hc hn => by rw [get_set_ne (by omega)]; exact f2.2.1 c hc hn, fun c hc => .inl hc⟩
  refine (devHas h2 D2 i).mono ?_
  rintro _ g ⟨rfl, rfl⟩
  by_cases q : 0 ≤ i ∧ i < nw.length
  · refine .inl ⟨by rw [decide_eq_true q], ?_⟩
    have D2' := D2
    obtain ⟨⟨bs, bn, pp, pn, pc, ops, pcs, st, g1, g2', g3, g4, g5, g6, g6b, g7, g8, g9, g10, g11⟩, s1, s2⟩ := D2
    obtain ⟨N, rfl⟩ : ∃ N : Nat, i = N := ⟨i.toNat, by omega⟩
    have hN : N < nw.length := by omega
    refine derefP_at (.inr ⟨ld1_at g1 rfl, derefP_at ⟨some ⟨bn, 0, none⟩, _, _, ld1_at g1 rfl, derefP_at ⟨q.1, q.2, secC nw[N], ?_, ?_⟩⟩⟩)
    · rw [Int.toNat_natCast, Nat.zero_add, ldN_of g4 (by rw [secsC_len s1]; omega), secsC_get s1 hN]
    · have hl := secC_len (s1 _ (List.getElem_mem hN))
      obtain ⟨g3, e1, e2, D3, f3⟩ := fin hl
      exact ⟨hl, g3, e1, secC nw[N], e2, D3, f3, .inl ⟨nw[N], q.1, by rw [Int.toNat_natCast, List.getElem?_eq_getElem hN], rfl⟩⟩
  · refine .inr ⟨by rw [decide_eq_false q], _, zSec, by simp, ?_⟩
    obtain ⟨g3, e1, e2, D3, f3⟩ := fin (vs := List.replicate 128 (.int .u8 0)) (by simp)
    exact ⟨g3, e1, _, e2, D3, f3, .inr ⟨q, by rw [secC_zero]⟩⟩
theorem PendOk.put {pcs : List Value} {n j : Nat} (p : PendOk pcs n) (hj : j < n) {l : List Value} (hl : l.length = 128) : PendOk (pcs.take (j * 129 + 1) ++ l ++ pcs.drop (j * 129 + 1 + 128)) n := by
  have hp := p.1
  refine ⟨?_, fun i hi => ?_⟩
  · simp only [List.length_append, List.length_take, List.length_drop, hl, hp]
    omega
  · obtain ⟨x, hx⟩ := p.2 i hi
    refine ⟨x, ?_⟩
    by_cases q : i ≤ j
    · rw [List.append_assoc, List.getElem?_append_left (by rw [List.length_take]; omega), List.getElem?_take, if_pos (by omega), hx]
    · rw [List.getElem?_append_right (by rw [List.length_append, List.length_take, hl]; omega), List.getElem?_drop, ← hx]
      congr 1
      rw [List.length_append, List.length_take, hl]
      omega
theorem devRot (hk : K 15 = none) (h2 : K 28 = none) (D : DevO h d F W nw) (hW : W ≤ 100000) (i : Int) {s : List Nat} (hs : Sec s) :
    Wf Try.prog K 15 [.pointer (some ⟨d, 0, none⟩), .int .i64 i, .agg (secC s).toArray] h fun v h' =>
      (0 ≤ i ∧ i < nw.length ∧ v = .int .i64 0 ∧ DevO h' d F W (nw.set i.toNat s) ∧ Fr F h h' F) ∨ (¬ (0 ≤ i ∧ i < nw.length) ∧ v = .int .i64 41 ∧ DevO h' d F W nw ∧ Fr F h h' F) := by
  refine vc_vdev_Dev_Rot hk _ _ _ h _ fun h0 e0 => ?_
  have o0 : Old h h0 := by rw [e0]; exact Old_alloc _ _
  have D0 := D.old o0
  have hnF : h.next ∉ F := fun q => absurd (D.lt _ q) (Nat.lt_irrefl _)
  have hg0 : h0.get h.next = some (.cells (secC s) tSec false) := by rw [e0]; exact get_alloc_next _ _
  have hsl := secC_len hs
  refine (devHas h2 D0 i).mono ?_
  rintro _ g ⟨rfl, rfl⟩
  by_cases q : 0 ≤ i ∧ i < nw.length
  rotate_left
  · exact .inr ⟨by rw [decide_eq_false q], .inr ⟨q, rfl, D0, o0.fr F⟩⟩
  refine .inl ⟨by rw [decide_eq_true q], ?_⟩
  have hlt := D.lt
  obtain ⟨⟨bs, bn, pp, pn, pc, ops, pcs, st, g1, g2', g3, g4, g5, g6, g6b, g7, g8, g9, g10, g11⟩, s1, s2⟩ := D0
  have nd := g10
  rw [g9] at nd
  obtain ⟨N, rfl⟩ : ∃ N : Nat, i = N := ⟨i.toNat, by omega⟩
  have hN : N < nw.length := by omega
  have ne1 : d ≠ bs := by simp at nd; omega
  have ne2 : d ≠ bn := by simp at nd; omega
  have ne3 : bs ≠ bn := by simp at nd; omega
  have nb1 : h.next ≠ bs := fun z => hnF (by rw [g9, z]; simp)
  have nb2 : h.next ≠ bn := fun z => hnF (by rw [g9, z]; simp)
  have np : ∀ b ∈ bl pp, b ≠ d ∧ b ≠ bs ∧ b ≠ bn ∧ b ≠ h.next := by
    intro b hb
    have hbF : b ∈ F := by rw [g9, List.mem_append]; exact .inr hb
    rw [List.nodup_append] at nd
    have := nd.2.2
    refine ⟨fun z => this d (by simp) b hb z.symm, fun z => this bs (by simp) b hb z.symm, fun z => this bn (by simp) b hb z.symm, fun z => hnF (z ▸ hbF)⟩
  refine derefP_at ⟨some ⟨bs, 0, none⟩, _, _, ld1_at g1 rfl, secC s, ldN_all hg0 hsl, derefP_at ⟨q.1, q.2, hsl, _, stN_of g2' (by rw [hsl, g3]; simp; omega), ?_⟩⟩
  refine derefP_at ⟨some ⟨bn, 0, none⟩, _, _, ld1_at (by rw [get_set_ne ne1]; exact g1) rfl, secC s, ldN_all (by rw [get_set_ne nb1]; exact hg0) hsl, derefP_at ⟨q.1, q.2, hsl, _, stN_of (by rw [get_set_ne (Ne.symm ne3)]; exact g4) (by rw [hsl, secsC_len s1]; simp; omega), ?_⟩⟩
  have e1 : List.take (0 + Int.toNat (N : Int) * 128) (secsC nw) ++ secC s ++ List.drop (0 + Int.toNat (N : Int) * 128 + (secC s).length) (secsC nw) = secsC (nw.set N s) := by
    simp only [hsl, Int.toNat_natCast, Nat.zero_add]
    exact secsC_set s1 hN hs
  rw [e1]
  generalize hst : List.take (0 + Int.toNat (N : Int) * 128) st ++ secC s ++ List.drop (0 + Int.toNat (N : Int) * 128 + (secC s).length) st = st2
  have st2l : st2.length = nw.length * 128 := by
    rw [← hst]
    simp only [List.length_append, List.length_take, List.length_drop, hsl, g3, Int.toNat_natCast]
    omega
  obtain ⟨g, hg⟩ : ∃ g, g = (h0.set bs (.cells st2 tSec false)).set bn (.cells (secsC (nw.set N s)) tSec false) := ⟨_, rfl⟩
  rw [← hg]
  have kd : g.get d = _ := (by rw [hg, get_set_ne ne2, get_set_ne ne1] : g.get d = h0.get d).trans g1
  have ks : g.get bs = some (.cells st2 tSec false) := by rw [hg, get_set_ne ne3, get_set_self]
  have kn : g.get bn = some (.cells (secsC (nw.set N s)) tSec false) := by rw [hg, get_set_self]
  have kl : g.get h.next = some (.cells (secC s) tSec false) := by rw [hg, get_set_ne nb2, get_set_ne nb1, hg0]
  have kp : ∀ b ∈ bl pp, g.get b = h0.get b := fun b hb => by rw [hg, get_set_ne (np b hb).2.2.1, get_set_ne (np b hb).2.1]
  have gnx : g.next = h0.next := by rw [hg]; rfl
  have g5' : Grow 0 g tWr 129 pp pn pc pcs := by
    refine ⟨g5.1, ?_⟩
    rcases g5.2 with z | ⟨b, hp, hl, hb, hgb, hc⟩
    · exact .inl z
    · exact .inr ⟨b, hp, hl, by rw [gnx]; exact hb, by rw [kp b (by rw [hp]; simp [bl]), hgb], hc⟩
  refine derefP_at ⟨pp, pn, pc, ld1_at kd rfl, fun x k g' => ∃ (j : Nat) (pcs' : List Value), x = j ∧ j ≤ pn ∧ pn - j = k ∧ g'.next = g.next ∧ (∀ c, c ∉ bl pp → g'.get c = g.get c) ∧ Grow 0 g' tWr 129 pp pn pc pcs' ∧ PendOk pcs' pn, ⟨pn, 0, pcs, rfl, Nat.zero_le _, rfl, rfl, fun _ _ => rfl, g5', g6⟩, ?_⟩
  rintro k g' x ⟨j, pcs', rfl, hj, rfl, hn', hrest, hgr, hpo⟩
  have nbl : ∀ c, (c = d ∨ c = bs ∨ c = bn ∨ c = h.next) → c ∉ bl pp := fun c hc hb => by
    have := np c hb
    omega
  have kd' : g'.get d = _ := (hrest d (nbl d (.inl rfl))).trans kd
  have kl' : g'.get h.next = _ := (hrest h.next (nbl _ (.inr (.inr (.inr rfl))))).trans kl
  refine ⟨fun q1 => ?_, fun q1 => .inl ⟨q.1, q.2, rfl, ?_, ?_⟩⟩
  · obtain ⟨b, rfl, -, hbn, hgb, hcc⟩ := hgr.2.resolve_left (fun z => by omega)
    have hjn : j < pn := by omega
    obtain ⟨y, hy⟩ := hpo.2 j hjn
    refine derefP_at ⟨_, _, _, ld1_at kd' rfl, derefP_at ⟨by omega, q1, y, ld1_at hgb (by rw [Int.toNat_natCast, Nat.zero_add]; exact hy), fun q2 => ?_, fun q2 x2 e2 => ?_⟩⟩
    · refine derefP_at ⟨_, _, _, ld1_at kd' rfl, secC s, ldN_all kl' hsl, derefP_at ⟨by omega, q1, hsl, _, stN_of hgb (by rw [hsl, hpo.1, Int.toNat_natCast]; omega), fun x2 e2 => ?_⟩⟩
      have e2 := i64w e2 (by omega) (by omega)
      refine ⟨pn - (j + 1), by omega, j + 1, _, by omega, by omega, rfl, by rw [← hn']; rfl, fun c hc => ?_, ⟨?_, .inr ⟨b, rfl, Nat.zero_le _, hbn, get_set_self _ _ _, hcc⟩⟩, ?_⟩
      · rw [get_set_ne (fun z => hc (by rw [z]; simp [bl])), hrest c hc]
      · simp only [hsl, Int.toNat_natCast, Nat.zero_add]
        exact (hpo.put hjn hsl).1
      · simp only [hsl, Int.toNat_natCast, Nat.zero_add]
        exact hpo.put hjn hsl
    · have e2 := i64w e2 (by omega) (by omega)
      exact ⟨pn - (j + 1), by omega, j + 1, pcs', by omega, by omega, rfl, hn', hrest, hgr, hpo⟩
  · refine ⟨⟨bs, bn, pp, pn, pc, ops, pcs', st2, ?_, ?_, by rw [List.length_set]; exact st2l, ?_, hgr, hpo, g6b, g7, g8, g9, g10, fun c hc => by rw [hn', gnx]; exact g11 c hc⟩, ?_, by rw [List.length_set]; exact s2⟩
    · rw [List.length_set]; exact kd'
    · exact (hrest bs (nbl _ (.inr (.inl rfl)))).trans ks
    · exact (hrest bn (nbl _ (.inr (.inr (.inl rfl))))).trans kn
    · intro s' hs'
      rcases List.mem_or_eq_of_mem_set hs' with z | z
      · exact s1 s' z
      · rw [z]; exact hs
  · refine (o0.fr F).trans ⟨by rw [hn', gnx]; exact Nat.le_refl _, fun c hc hn => ?_, fun c hc => .inl hc⟩
    have c1 : c ∉ bl pp := fun z => hn (by rw [g9, List.mem_append]; exact .inr z)
    have c2 : c ≠ bn := fun z => hn (by rw [g9, z]; simp)
    have c3 : c ≠ bs := fun z => hn (by rw [g9, z]; simp)
    rw [hrest c c1, hg, get_set_ne c2, get_set_ne c3]
theorem devNew (hk : K 19 = none) (n : Nat) (hn : n ≤ 1024) (h : AH) :
    Wf Try.prog K 19 [.int .i64 n] h fun v h' => ∃ d F, v = .pointer (some ⟨d, 0, none⟩) ∧ DevO h' d F 0 (List.replicate n (List.replicate 128 0)) ∧ Old h h' ∧ ∀ c ∈ F, h.next ≤ c := by
  refine vc_vdev_New hk _ h _ fun i0 e0 i1 e1 => ?_
  have h0 : i0 = n := by rw [e0]; split <;> omega
  have h1 : i1 = n := by rw [e1]; split <;> omega
  subst h1
  refine ⟨⟨by omega, by omega, by omega, by omega⟩, fun h2 e2 => ⟨⟨by omega, by omega, by omega, by omega⟩, fun h3 e3 h4 e4 => ?_⟩⟩
  have hz : (List.replicate n (List.replicate 128 (Value.int .u8 0))).flatten = secsC (List.replicate n (List.replicate 128 0)) := by
    rw [secC_zero]
    unfold secsC
    rw [List.map_replicate]
  rw [Int.toNat_natCast] at e2 e3 e4
  rw [hz] at e2 e3
  have hsec : ∀ s ∈ List.replicate n (List.replicate 128 0), Sec s := fun s hs => by rw [List.mem_replicate] at hs; rw [hs.2]; exact sec_zero
  have o2 : Old h h2 := by rw [e2]; exact Old_alloc _ _
  have o3 : Old h2 h3 := by rw [e3]; exact Old_alloc _ _
  have o4 : Old h3 h4 := by rw [e4]; exact Old_alloc _ _
  have n2 : h2.next = h.next + 1 := by rw [e2]; rfl
  have n3 : h3.next = h2.next + 1 := by rw [e3]; rfl
  have n4 : h4.next = h3.next + 1 := by rw [e4]; rfl
  refine ⟨h3.next, [h3.next, h.next, h2.next] ++ bl none, rfl, ⟨⟨h.next, h2.next, none, 0, 0, 0, [], secsC (List.replicate n (List.replicate 128 0)), ?_, ?_, ?_, ?_, Grow.nil _ _ _ _, ⟨rfl, fun i hi => absurd hi (Nat.not_lt_zero _)⟩, Nat.le_refl _, by decide, by decide, rfl, ?_, ?_⟩, hsec, by simpa using hn⟩, (o2.trans o3).trans o4, ?_⟩
  · rw [e4, get_alloc_next, List.length_replicate]
  · rw [o4.2 _ (by omega), o3.2 _ (by omega), e2, get_alloc_next]
  · rw [secsC_len hsec]
  · rw [o4.2 _ (by omega), e3, get_alloc_next]
  · simp [bl]; omega
  · intro c hc; simp [bl] at hc; omega
  · intro c hc; simp [bl] at hc; omega
end
end Go.Am
