/-
  A CLONE'S OWNER HAS IT FOR ITS ORIGIN: the law of a family, as the abstract machine runs it.
-/
import Derived.Test.YtibgmhipepaeaaaCWay
import Derived.Test.YtibgmhipepaeaaaAmS
set_option linter.unusedVariables false
set_option linter.unusedSimpArgs false
set_option maxRecDepth 100000
namespace Go.Am
open Go.Proofs
theorem filter_ltF {α : Type} {P Q : α → Bool} : ∀ {l : List α}, (∀ a ∈ l, P a = true → Q a = true) → (∃ a ∈ l, Q a = true ∧ P a = false) → (l.filter P).length < (l.filter Q).length
  | [], _, ⟨a, h, _⟩ => by cases h
  | x :: l, hs, ⟨a, ha, hq, hp⟩ => by
    have hs' : ∀ a ∈ l, P a = true → Q a = true := fun a h => hs a (List.mem_cons_of_mem _ h)
    have hle : ∀ {l : List α}, (∀ a ∈ l, P a = true → Q a = true) → (l.filter P).length ≤ (l.filter Q).length := by
      intro l
      induction l with
      | nil => intro _; simp
      | cons y l ih =>
        intro hs
        have := ih fun a h => hs a (List.mem_cons_of_mem _ h)
        have hy := hs y List.mem_cons_self
        rw [List.filter_cons, List.filter_cons]
        cases h1 : P y <;> cases h2 : Q y <;> simp_all
        omega
    rw [List.filter_cons, List.filter_cons]
    rcases List.mem_cons.1 ha with rfl | ha
    · rw [hp, hq]
      have := hle hs'
      simp
      omega
    · have ih := filter_ltF hs' ⟨a, ha, hq, hp⟩
      have hx := hs x List.mem_cons_self
      cases h1 : P x <;> cases h2 : Q x <;> simp_all
      omega
section
variable {nx : Int} {rs : List SetR}
theorem RightP.ent (R : RightP nx rs) {y : SetR} (h : y ∈ rs) : EntR y := by
  obtain ⟨j, hj⟩ := List.mem_iff_getElem?.1 h
  exact (R.2.2.1 j y hj).1
theorem RightP.vol (R : RightP nx rs) {y : SetR} (h : y ∈ rs) : ∃ j v, plcN rs y.own = some j ∧ rs[j]? = some v ∧ v.snap = false ∧ v.own = y.own := by
  have e := R.ent h
  cases hs : y.snap with
  | true =>
    obtain ⟨⟨j, v, h1, h2, h3⟩, -⟩ := (R.2.2.2.2 y h).2 hs
    refine ⟨j, v, h1, h2, h3, ?_⟩
    have hv := R.ent (List.mem_of_getElem? h2)
    obtain ⟨hj, hid⟩ := plcN_at h1
    rw [List.getElem?_eq_getElem hj] at h2
    cases h2
    rcases hv.2.2.2.2.2.2.2.2 with q | q
    · rw [h3] at q; cases q.1
    · rw [q.2.2]; exact hid
  | false =>
    obtain ⟨j, hj⟩ := List.mem_iff_getElem?.1 h
    rcases e.2.2.2.2.2.2.2.2 with q | q
    · rw [hs] at q; cases q.1
    · exact ⟨j, y, by rw [q.2.2]; exact R.uniq hj, hj, hs, rfl⟩
theorem RightP.next (R : RightP nx rs) {y : SetR} (h : y ∈ rs) (hs : y.snap = true) : ∃ z ∈ rs, z.own = y.own ∧ z.prev = y.id := by
  have h1 := ((R.2.2.2.2 y h).2 hs).2
  obtain ⟨z, hz⟩ := List.exists_mem_of_length_pos (show 0 < (rs.filter fun x => decide (x.own = y.own) && decide (x.prev = y.id)).length by omega)
  obtain ⟨h2, h3⟩ := List.mem_filter.1 hz
  simp at h3
  exact ⟨z, h2, h3⟩
theorem RightP.way1 (R : RightP nx rs) {y : SetR} (h : y ∈ rs) {o : Int} (ho : y.own = o) (k : Nat) (ch : List Int) : wayW rs o (k + 1) y.id ch = wayW rs o k y.prev (ch ++ [y.id]) := by
  have e := (R.ent h).1.1
  obtain ⟨j, hj⟩ := List.mem_iff_getElem?.1 h
  conv => lhs; unfold wayW
  rw [if_neg (by omega)]
  simp only [R.uniq hj, hj, ho, if_true]
theorem RightP.climb (R : RightP nx rs) {o : Int} {jv : Nat} {v : SetR} (hv1 : plcN rs o = some jv) (hv2 : rs[jv]? = some v) : ∀ (N : Nat) (y : SetR), y ∈ rs → y.own = o → y.snap = true → (rs.filter fun z => z.snap && decide (y.stamp < z.stamp)).length ≤ N →
    ∃ m l, m ≤ N + 1 ∧ l.length = m ∧ ∀ k ch, wayW rs o (k + m) v.prev ch = wayW rs o k y.prev (ch ++ l) := by
  intro N
  induction N with
  | zero =>
    intro y hy ho hs hN
    obtain ⟨z, hz, z1, z2⟩ := R.next hy hs
    have ez := R.ent hz
    cases hzs : z.snap with
    | true =>
      have ey := (R.ent hy).1.1
      obtain ⟨j, x', q1, q2, q3, q4⟩ := (R.2.2.2.2 z hz).1.1 (by omega)
      obtain ⟨i, hi⟩ := List.mem_iff_getElem?.1 hy
      rw [z2, R.uniq hi] at q1
      cases q1
      rw [hi] at q2
      cases q2
      have : z ∈ rs.filter fun z => z.snap && decide (y.stamp < z.stamp) := List.mem_filter.2 ⟨hz, by rw [hzs]; simpa using q4 hzs⟩
      have := List.length_pos_of_mem this
      omega
    | false =>
      have hzv : z = v := by
        rcases ez.2.2.2.2.2.2.2.2 with q | q
        · rw [hzs] at q; cases q.1
        · obtain ⟨i, hi⟩ := List.mem_iff_getElem?.1 hz
          have hu := R.uniq hi
          rw [← q.2.2, z1, ho, hv1] at hu
          cases hu
          rw [hv2] at hi
          exact (Option.some.inj hi).symm
      subst hzv
      exact ⟨1, [y.id], by omega, rfl, fun k ch => by rw [z2]; exact R.way1 hy ho k ch⟩
  | succ N ih =>
    intro y hy ho hs hN
    obtain ⟨z, hz, z1, z2⟩ := R.next hy hs
    have ez := R.ent hz
    cases hzs : z.snap with
    | true =>
      have ey := (R.ent hy).1.1
      obtain ⟨j, x', q1, q2, q3, q4⟩ := (R.2.2.2.2 z hz).1.1 (by omega)
      obtain ⟨i, hi⟩ := List.mem_iff_getElem?.1 hy
      rw [z2, R.uniq hi] at q1
      cases q1
      rw [hi] at q2
      cases q2
      have hst := q4 hzs
      have hlt := filter_ltF (P := fun a : SetR => a.snap && decide (z.stamp < a.stamp)) (Q := fun a : SetR => a.snap && decide (y.stamp < a.stamp)) (l := rs) (fun a _ h => by simp at h ⊢; exact ⟨h.1, by omega⟩) ⟨z, hz, by rw [hzs]; simpa using hst, by simp⟩
      obtain ⟨m, l, hm, hl, hw⟩ := ih z hz (by rw [z1]; exact ho) hzs (by omega)
      refine ⟨m + 1, l ++ [y.id], by omega, by simp [hl], fun k ch => ?_⟩
      rw [show k + (m + 1) = (k + 1) + m by omega, hw, z2, R.way1 hy ho, List.append_assoc]
    | false =>
      have hzv : z = v := by
        rcases ez.2.2.2.2.2.2.2.2 with q | q
        · rw [hzs] at q; cases q.1
        · obtain ⟨i, hi⟩ := List.mem_iff_getElem?.1 hz
          have hu := R.uniq hi
          rw [← q.2.2, z1, ho, hv1] at hu
          cases hu
          rw [hv2] at hi
          exact (Option.some.inj hi).symm
      subst hzv
      exact ⟨1, [y.id], by omega, rfl, fun k ch => by rw [z2]; exact R.way1 hy ho k ch⟩
theorem RightP.room (R : RightP nx rs) {y : SetR} (hy : y ∈ rs) : (rs.filter fun z => z.snap && decide (y.stamp < z.stamp)).length ≤ 31 := by
  have := filter_ltF (P := fun a : SetR => a.snap && decide (y.stamp < a.stamp)) (Q := fun _ : SetR => true) (l := rs) (fun _ _ _ => rfl) ⟨y, hy, rfl, by simp⟩
  have h2 : rs.filter (fun _ : SetR => true) = rs := List.filter_eq_self.2 fun _ _ => rfl
  rw [h2] at this
  have := R.2.1
  omega
theorem RightP.origin (R : RightP nx rs) {x s : SetR} (hx : x ∈ rs) (hs : s ∈ rs) (he : x.prev = s.id) (hne : x.own ≠ s.own) : (wayR rs x.own).2 = s.id := by
  obtain ⟨jv, v, h1, h2, h3, h4⟩ := R.vol hx
  have hw : wayR rs x.own = wayW rs x.own 32 v.prev [] := by
    unfold wayR
    simp only [h1, h2, h3]
    rfl
  have hend : ∀ k ch, (wayW rs x.own k s.id ch).2 = s.id := by
    intro k ch
    cases k with
    | zero => rfl
    | succ k =>
      have e := (R.ent hs).1.1
      obtain ⟨j, hj⟩ := List.mem_iff_getElem?.1 hs
      unfold wayW
      rw [if_neg (by omega)]
      simp only [R.uniq hj, hj, if_neg (Ne.symm hne)]
  rw [hw]
  cases hxs : x.snap with
  | true =>
    obtain ⟨m, l, hm, hl, hk⟩ := R.climb h1 h2 31 x hx rfl hxs (R.room hx)
    have := hk (32 - m) []
    rw [show 32 - m + m = 32 by omega] at this
    rw [this, he]
    exact hend _ _
  | false =>
    have hxv : x = v := by
      rcases (R.ent hx).2.2.2.2.2.2.2.2 with q | q
      · rw [hxs] at q; cases q.1
      · obtain ⟨i, hi⟩ := List.mem_iff_getElem?.1 hx
        have hu := R.uniq hi
        rw [← q.2.2, h1] at hu
        cases hu
        rw [h2] at hi
        exact (Option.some.inj hi).symm
    rw [← hxv, he]
    exact hend _ _
theorem filter_split {α : Type} (P Q : α → Bool) : ∀ l : List α, (l.filter Q).length = (l.filter fun x => P x && Q x).length + (l.filter fun x => (!P x) && Q x).length
  | [] => rfl
  | x :: l => by
    have ih := filter_split P Q l
    rw [List.filter_cons, List.filter_cons, List.filter_cons]
    cases h1 : P x <;> cases h2 : Q x <;> simp_all <;> omega
/-- How many hang on a record. -/
theorem RightP.kids (R : RightP nx rs) {s : SetR} (hs : s ∈ rs) : (s.snap = true → (rs.filter fun x => decide (x.prev = s.id)).length = (clL rs s.id).length + 1) ∧ (s.snap = false → (rs.filter fun x => decide (x.prev = s.id)).length = 0 ∧ clL rs s.id = []) := by
  obtain ⟨i, hi⟩ := List.mem_iff_getElem?.1 hs
  have hu := R.uniq hi
  constructor
  · intro h
    have hc : clL rs s.id = (rs.filter fun x => (!decide (x.own = s.own)) && decide (x.prev = s.id)).map (·.id) := by
      unfold clL
      simp only [hu, hi, h, if_true]
    rw [hc, List.length_map, filter_split (fun x : SetR => decide (x.own = s.own)) (fun x => decide (x.prev = s.id)) rs, ((R.2.2.2.2 s hs).2 h).2]
    omega
  · intro h
    have hc : clL rs s.id = [] := by
      unfold clL
      simp only [hu, hi, h]
      rfl
    refine ⟨?_, hc⟩
    rw [List.length_eq_zero_iff, List.filter_eq_nil_iff]
    intro x hx
    simp
    intro e
    have := (R.ent hs).1.1
    obtain ⟨j, y, q1, q2, q3, -⟩ := (R.2.2.2.2 x hx).1.1 (by omega)
    rw [e, hu] at q1
    cases q1
    rw [hi] at q2
    cases q2
    rw [h] at q3
    cases q3
theorem RightP.clone (R : RightP nx rs) {s : SetR} (hs : s ∈ rs) : ∀ id ∈ clL rs s.id, ∃ i x, plcN rs id = some i ∧ rs[i]? = some x ∧ x.own ≠ s.own ∧ (wayR rs x.own).2 = s.id := by
  obtain ⟨i, hi⟩ := List.mem_iff_getElem?.1 hs
  have hu := R.uniq hi
  intro id hid
  unfold clL at hid
  simp only [hu, hi] at hid
  split at hid
  · obtain ⟨x, hx, rfl⟩ := List.mem_map.1 hid
    obtain ⟨h1, h2⟩ := List.mem_filter.1 hx
    simp at h2
    obtain ⟨j, hj⟩ := List.mem_iff_getElem?.1 h1
    exact ⟨j, x, R.uniq hj, hj, h2.1, R.origin h1 hs h2.2 h2.1⟩
  · cases hid
end
section
variable {K : Xs} {h : AH} {p : Option Addr} {n c : Nat} {rs : List SetR}
theorem clonesTail (kN : K 17 = none) (kO : K 18 = none) (kW : K 56 = none) (kC : K 42 = none) (kP : K 54 = none) {h56 : AH} {sb : Nat} {pa0 : Option Addr} {na0 ca0 : Nat} {p57 : Option Addr} {n58 : Nat} {l : List Int} {E : AH → Prop} {r : SetR} {ty : TypeId} (T : Sets h56 pa0 na0 rs) (G : Shows h56 p57 n58 1 (u64I l)) (hl : l.length ≤ 1000) (cb : h56.get sb = some (.cells (setC r) ty false)) (lt : sb < h56.next)
    (hx : ∀ id ∈ l, ∃ i x, plcN rs id = some i ∧ rs[i]? = some x ∧ x.own ≠ r.own ∧ (wayR rs x.own).2 = r.id) (hE : ∀ g, Old h56 g → E g) :
    ∃ I61 : Int → Nat → AH → Prop, (∃ n, I61 0 n h56) ∧
    ∀ (k62 : Nat) (h63 : AH) (i65 : Int), I61 i65 k62 h63 →
    ((i65 : Int) < ((n58 : Nat) : Int) → derefP p57 fun b66 o67 => (((0 : Int) ≤ i65) ∧ ((i65 : Int) < ((n58 : Nat) : Int)) ∧
    (∃ i68 : Int, ld1 h63 b66 (o67 + Int.toNat i65 * 1) = some (.int .u64 i68) ∧
    (Wf Try.prog K 17 [(.slice pa0 na0 ca0), (.int .u64 i68)] h63 fun r69 h70 =>
    (∃ i71 : Int, ∃ s72 : ByteArray, ∃ b73 : Bool, ∃ i74 : Int, ∃ i75 : Int, ∃ i76 : Int, ∃ i77 : Int, ∃ i78 : Int, ∃ i79 : Int, ∃ i80 : Int, ∃ (p81 : Option Addr) (n82 c83 : Nat), ((r69 = (.tuple #[(.agg #[(.int .u64 i71), (.string s72), (.bool b73), (.int .u64 i74), (.int .u64 i75), (.int .u64 i76), (.int .i64 i77), (.int .i64 i78), (.int .u64 i79), (.int .u32 i80), (.slice p81 n82 c83)]), (.bool true)]) ∧
    (∀ h84 : AH, h84 = h70.alloc (.cells ([(.int .u64 0), (.string (ByteArray.mk #[])), (.bool false), (.int .u64 0), (.int .u64 0), (.int .u64 0), (.int .i64 0), (.int .i64 0), (.int .u64 0), (.int .u32 0), (.slice none 0 0)] : List Value) 28 false) →
    (List.length ([(.int .u64 i71), (.string s72), (.bool b73), (.int .u64 i74), (.int .u64 i75), (.int .u64 i76), (.int .i64 i77), (.int .i64 i78), (.int .u64 i79), (.int .u32 i80), (.slice p81 n82 c83)] : List Value) = 11) ∧ ∃ h85 : AH, stN h84 h70.next 0 ([(.int .u64 i71), (.string s72), (.bool b73), (.int .u64 i74), (.int .u64 i75), (.int .u64 i76), (.int .i64 i77), (.int .i64 i78), (.int .u64 i79), (.int .u32 i80), (.slice p81 n82 c83)] : List Value) = some h85 ∧
    (∃ i86 : Int, ld1 h85 h70.next 3 = some (.int .u64 i86) ∧
    (∃ i87 : Int, ld1 h85 sb 3 = some (.int .u64 i87) ∧
    (((i86 : Int) = i87 → (Value.bool false = Value.bool true)) ∧
    (¬ (i86 : Int) = i87 → ∃ i88 : Int, ld1 h85 h70.next 3 = some (.int .u64 i88) ∧
    (Wf Try.prog K 18 [(.slice pa0 na0 ca0), (.int .u64 i88)] h85 fun r89 h90 =>
    (∃ i91 : Int, r89 = (.int .u64 i91) ∧
    (∃ i92 : Int, ld1 h90 sb 0 = some (.int .u64 i92) ∧
    (((i91 : Int) = i92 → (ld1 h85 sb 0 = some (.int .u64 i92)) ∧
    ((ld1 h90 sb 0 = some (.int .u64 i92)) ∧
    (∀ i93 : Int, i93 = IntKind.wrap .i64 (i65 + 1) → ∃ j64, j64 < k62 ∧ I61 i93 j64 h90))) ∧
    (¬ (i91 : Int) = i92 → (ld1 h85 sb 0 = some (.int .u64 i92)) ∧
    ((ld1 h90 sb 0 = some (.int .u64 i92)) ∧
    ((Value.bool false = Value.bool true)))))))))))))) ∨ (r69 = (.tuple #[(.agg #[(.int .u64 i71), (.string s72), (.bool b73), (.int .u64 i74), (.int .u64 i75), (.int .u64 i76), (.int .i64 i77), (.int .i64 i78), (.int .u64 i79), (.int .u32 i80), (.slice p81 n82 c83)]), (.bool false)]) ∧
    (∀ h94 : AH, h94 = h70.alloc (.cells ([(.int .u64 0), (.string (ByteArray.mk #[])), (.bool false), (.int .u64 0), (.int .u64 0), (.int .u64 0), (.int .i64 0), (.int .i64 0), (.int .u64 0), (.int .u32 0), (.slice none 0 0)] : List Value) 28 false) →
    (List.length ([(.int .u64 i71), (.string s72), (.bool b73), (.int .u64 i74), (.int .u64 i75), (.int .u64 i76), (.int .i64 i77), (.int .i64 i78), (.int .u64 i79), (.int .u32 i80), (.slice p81 n82 c83)] : List Value) = 11) ∧ ∃ h95 : AH, stN h94 h70.next 0 ([(.int .u64 i71), (.string s72), (.bool b73), (.int .u64 i74), (.int .u64 i75), (.int .u64 i76), (.int .i64 i77), (.int .i64 i78), (.int .u64 i79), (.int .u32 i80), (.slice p81 n82 c83)] : List Value) = some h95 ∧
    ((Value.bool false = Value.bool true)))))))))) ∧
    (¬ (i65 : Int) < ((n58 : Nat) : Int) → E h63) := by
  have hnl : n58 = l.length := by have := G.1; rw [u64I_len] at this; omega
  refine ⟨fun i k g => ∃ u : Nat, i = u ∧ u ≤ n58 ∧ n58 - u = k ∧ Old h56 g, ⟨_, 0, rfl, Nat.zero_le _, rfl, Old.refl _⟩, ?_⟩
  rintro k1 g2 i4 ⟨u, rfl, hu, rfl, o2⟩
  refine ⟨fun z => ?_, fun z => hE g2 o2⟩
  have hul : u < l.length := by omega
  obtain ⟨b, off, rfl, hld⟩ := (G.old o2).get (i := u) (by omega)
  rw [u64I_get hul] at hld
  obtain ⟨i, x, q1, q2, q3, q4⟩ := hx _ (List.getElem_mem hul)
  generalize l[u] = id at hld q1
  refine derefP_at ⟨by omega, z, _, by rw [Int.toNat_natCast, Nat.mul_one]; exact hld, (findSpec kN kP kC (T.old o2) id).mono ?_⟩
  rintro v g70 ⟨⟨i', r', p', c', e1, e2, rfl, ok'⟩ | ⟨e1, -⟩, o70⟩
  rotate_left
  · rw [q1] at e1; cases e1
  rw [q1] at e1
  cases e1
  rw [q2] at e2
  cases e2
  refine ⟨_, _, _, _, _, _, _, _, _, _, _, _, _, .inl ⟨rfl, fun g84 e84 => ?_⟩⟩
  obtain ⟨g85, k85, n85, o85, v85⟩ := put_new e84 (vs := setC { x with dp := p', dc := c' }) rfl
  have w85 := v85 [] (fun c hc => by cases hc)
  have oo := (o2.trans o70).trans o85
  have cb85 := (oo.2 _ lt).trans cb
  refine ⟨rfl, g85, k85, _, ld1_at w85.1 rfl, _, ld1_at cb85 rfl, fun y => absurd y q3, fun _ => ⟨_, ld1_at w85.1 rfl, (originSpec kO kW kP (T.old oo) _).mono ?_⟩⟩
  rintro _ g90 ⟨rfl, o90⟩
  have cb90 := ((oo.trans o90).2 _ lt).trans cb
  refine ⟨_, rfl, _, ld1_at cb90 rfl, fun _ => ⟨ld1_at cb85 rfl, ld1_at cb90 rfl, fun i93 e93 => ?_⟩, fun y => absurd q4 y⟩
  have e93 := i64w e93 (by omega) (by omega)
  exact ⟨n58 - (u + 1), by omega, u + 1, by omega, by omega, rfl, oo.trans o90⟩
theorem clonesTrue (hk : K 5 = none) (ha : K 12 = some (.sum xTrue)) (kk : KRight K) (kN : K 17 = none) (kC : K 42 = none) (kO : K 18 = none) (kW : K 56 = none) (kL : K 16 = none) (T : Sets h p n rs) :
    Wf Try.prog K 5 [.slice p n c] h fun v _ => v = .bool true := by
  refine vc_aquiferlaw16_FamilyClones hk _ _ _ h _ (Wf_sum ha (v := .bool true) (h' := h) rfl (Nat.le_refl _) (.inl ⟨rfl, fun _ => rfl, fun hn40 => (rightSpec kk T _).mono ?_⟩))
  have hn := T.1
  rintro _ g3 ⟨⟨rfl, R⟩ | rfl, o3⟩
  rotate_left
  · exact .inr ⟨rfl, rfl⟩
  refine .inl ⟨rfl, fun i k g => ∃ u : Nat, i = u ∧ u ≤ n ∧ n - u = k ∧ Old h g, ⟨_, 0, rfl, Nat.zero_le _, rfl, o3⟩, ?_⟩
  rintro k5 g6 i8 ⟨u, rfl, hu, rfl, o6⟩
  refine ⟨fun z => ?_, fun _ => rfl⟩
  obtain ⟨b, off, rfl, hi', hl, h1, ok⟩ := (T.old o6).at (i := u) (by omega)
  have hru := List.getElem?_eq_getElem hi'
  refine derefP_at ⟨by omega, z, _, _, _, _, _, _, _, _, _, _, _, _, _, by rw [Int.toNat_natCast]; exact hl, fun g24 e24 => ?_⟩
  obtain ⟨g25, k25, n25, o25, v25⟩ := put_new e24 (vs := setC rs[u]) rfl
  have w25 := v25 [] (fun c hc => by cases hc)
  have o25' := o6.trans o25
  have hrm := List.getElem_mem hi'
  generalize rs[u] = r at hl h1 ok hru v25 w25 k25 hrm ⊢
  have step : ∀ g, Old g25 g → ∀ i98 : Int, i98 = IntKind.wrap .i64 ((u : Int) + 1) → ∃ j7, j7 < n - u ∧ ∃ u : Nat, i98 = u ∧ u ≤ n ∧ n - u = j7 ∧ Old h g := fun g o i98 e98 => by
    have e98 := i64w e98 (by omega) (by omega)
    exact ⟨n - (u + 1), by omega, u + 1, by omega, by omega, rfl, o25'.trans o⟩
  refine ⟨rfl, g25, k25, fun i30 i31 k g => ∃ w : Nat, i31 = w ∧ w ≤ n ∧ n - w = k ∧ Old g25 g ∧ i30 = (((rs.take w).filter fun x => decide (x.prev = r.id)).length : Nat), ⟨_, 0, rfl, Nat.zero_le _, rfl, Old.refl _, rfl⟩, ?_⟩
  rintro k27 g28 i30 i31 ⟨w, rfl, hw, rfl, o28, rfl⟩
  have cb28 := (o28.2 _ w25.2.1).trans w25.1
  have hcw : ((rs.take w).filter fun x => decide (x.prev = r.id)).length ≤ w := Nat.le_trans (List.length_filter_le _ _) (by rw [List.length_take]; omega)
  refine ⟨fun y => ?_, fun y => ?_⟩
  · obtain ⟨hw2, hl2, h2, ok2⟩ := (T.old (o25'.trans o28)).at' (i := w) (by omega)
    have htk := List.take_succ_eq_append_getElem hw2
    refine derefP_at ⟨by omega, y, _, _, _, _, _, _, _, _, _, _, _, _, _, by rw [Int.toNat_natCast]; exact hl2, fun g47 e47 => ?_⟩
    obtain ⟨g48, k48, n48, o48, v48⟩ := put_new e47 (vs := setC rs[w]) rfl
    have w48 := v48 [] (fun c hc => by cases hc)
    have cb48 := (o48.2 _ (by have := o28.1; have := w25.2.1; omega)).trans cb28
    refine ⟨rfl, g48, k48, _, ld1_at w48.1 rfl, _, ld1_at cb48 rfl, fun e i51 e51 i52 e52 => ?_, fun e i53 e53 => ?_⟩
    · have e51 := i64w e51 (by omega) (by omega)
      have e52 := i64w e52 (by omega) (by omega)
      refine ⟨n - (w + 1), by omega, w + 1, by omega, by omega, rfl, o28.trans o48, ?_⟩
      rw [htk, List.filter_append, List.length_append, e51]
      simp [e]
    · have e53 := i64w e53 (by omega) (by omega)
      refine ⟨n - (w + 1), by omega, w + 1, by omega, by omega, rfl, o28.trans o48, ?_⟩
      rw [htk, List.filter_append, List.length_append]
      simp [e]
  · obtain rfl : w = n := by omega
    rw [List.take_of_length_le (by omega)] at hcw
    have hkids := R.kids hrm
    have hclone := R.clone hrm
    refine ⟨_, ld1_at cb28 rfl, (clonesSpec kL kk.hang (T.old (o25'.trans o28)) (by omega) r.id).mono ?_⟩
    rintro _ g56 ⟨p57, n58, c59, rfl, G56, o56⟩
    have cb56 := (o56.2 _ (by have := o28.1; have := w25.2.1; omega)).trans cb28
    have lt56 : g6.next < g56.next := by have := o28.1; have := w25.2.1; have := o56.1; omega
    have hnl : n58 = (clL rs r.id).length := by have := G56.1; rw [u64I_len] at this; omega
    rw [List.take_of_length_le (by omega)]
    have tail := fun (hlen : (clL rs r.id).length ≤ 1000) (E : AH → Prop) => clonesTail kN kO kW kC kk.hang.place (E := E) (ca0 := c) (T.old ((o25'.trans o28).trans o56)) G56.shows hlen cb56 lt56 hclone
    refine ⟨_, _, _, rfl, ?_⟩
    cases hs : r.snap with
    | true =>
      have hk1 := hkids.1 hs
      have lds : ld1 g56 g6.next 2 = some (.bool true) := ld1_at cb56 (by simp [setC, hs])
      refine .inl ⟨lds, fun i60 e60 => ?_⟩
      have e60 := i64w e60 (by omega) (by omega)
      exact ⟨fun _ => .inl ⟨lds, tail (by omega) _ fun g o => step g ((o28.trans o56).trans o)⟩, fun y => absurd (by omega) y⟩
    | false =>
      obtain ⟨hk1, hk2⟩ := hkids.2 hs
      have lds : ld1 g56 g6.next 2 = some (.bool false) := ld1_at cb56 (by simp [setC, hs])
      refine .inr ⟨lds, .inr ⟨lds, fun i170 e170 => ?_⟩⟩
      rw [hk2] at hnl
      simp at hnl
      have e170 := i64w e170 (by omega) (by omega)
      exact ⟨fun y => absurd y (by omega), fun _ => tail (by rw [hk2]; decide) _ fun g o => step g ((o28.trans o56).trans o)⟩
end
end Go.Am
