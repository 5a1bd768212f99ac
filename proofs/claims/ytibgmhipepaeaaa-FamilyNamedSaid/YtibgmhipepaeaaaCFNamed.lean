/-
  EACH IS FOUND BY ITS NAME: the law, as the abstract machine runs it.
-/
import Derived.Test.YtibgmhipepaeaaaCFamN
set_option linter.unusedVariables false
set_option linter.unusedSimpArgs false
set_option maxRecDepth 100000
namespace Go.Am
open Go.Proofs
section
variable {K : Xs} {h : AH} {p : Option Addr} {n c : Nat} {rs : List SetR}
theorem namedTrue (hk : K 7 = none) (ha : K 12 = some (.sum xTrue)) (kk : KRight K) (kN : K 17 = none) (kC : K 42 = none) (kO : K 18 = none) (kW : K 56 = none) (kL : K 22 = none) (kX : K 21 = none) (kF : K 20 = none) (kM : KNamed K) (T : Sets h p n rs) :
    Wf Try.prog K 7 [.slice p n c] h fun v _ => v = .bool true := by
  have kP := kk.hang.place
  refine vc_aquiferlaw16_FamilyNamed hk _ _ _ h _ (Wf_sum ha (v := .bool true) (h' := h) rfl (Nat.le_refl _) (.inl ⟨rfl, fun _ => rfl, fun hn40 => (rightSpec kk T _).mono ?_⟩))
  have hn := T.1
  rintro _ g3 ⟨⟨rfl, R⟩ | rfl, o3⟩
  rotate_left
  · exact .inr ⟨rfl, rfl⟩
  refine .inl ⟨rfl, fun i k g => ∃ u : Nat, i = u ∧ u ≤ n ∧ n - u = k ∧ Old h g, ⟨_, 0, rfl, Nat.zero_le _, rfl, o3⟩, ?_⟩
  rintro k5 g6 i8 ⟨u, rfl, hu, rfl, o6⟩
  refine ⟨fun z => ?_, fun _ => rfl⟩
  obtain ⟨b, off, rfl, hi', hl, h1, ok⟩ := (T.old o6).at (i := u) (by omega)
  have hru := List.getElem?_eq_getElem hi'
  refine derefP_at ⟨by omega, z, _, _, _, _, _, _, _, _, _, _, _, _, _, by rw [Int.toNat_natCast]; exact hl, fun g24 e24 => ?_⟩
  obtain ⟨g25, k25, n25, o25, v25⟩ := put_new e24 (vs := setC rs[u]) rfl
  have w25 := v25 [] (fun c hc => by cases hc)
  have o25' := o6.trans o25
  have hrm := List.getElem_mem hi'
  generalize rs[u] = r at hl h1 ok hru v25 w25 k25 hrm ⊢
  have lt25 := w25.2.1
  have step : ∀ g, Old g25 g → ∀ i98 : Int, i98 = IntKind.wrap .i64 ((u : Int) + 1) → ∃ j7, j7 < n - u ∧ ∃ u : Nat, i98 = u ∧ u ≤ n ∧ n - u = j7 ∧ Old h g := fun g o i98 e98 => by
    have e98 := i64w e98 (by omega) (by omega)
    exact ⟨n - (u + 1), by omega, u + 1, by omega, by omega, rfl, o25'.trans o⟩
  have hid : ∀ r ∈ rs, (Lit.int .u64 r.id).wf = true := fun r hr => by
    obtain ⟨j, hj⟩ := List.mem_iff_getElem?.1 hr
    have hjl := (List.getElem?_eq_some_iff.1 hj).1
    obtain ⟨hi2, -, -, ok2⟩ := (T.old o6).at' (i := j) (by omega)
    have e2 := List.getElem?_eq_getElem hi2
    rw [hj] at e2
    cases e2
    exact ok2.id
  have fld : ∀ g, Old g25 g → ∀ (j : Nat) v, (setC r)[j]? = some v → ld1 g g6.next j = some v := fun g o j v hj => ld1_at ((o.2 _ lt25).trans w25.1) hj
  refine ⟨rfl, g25, k25, _, fld g25 (Old.refl _) 0 _ rfl, (fullSpec kM.name kF kP (T.old o25') R.names r.id).mono ?_⟩
  rintro _ g28 ⟨rfl, o28⟩
  refine ⟨_, rfl, (namedSpec kM (T.old (o25'.trans o28)) R.calOk hid _ (R.fullSize hru)).mono ?_⟩
  obtain ⟨a, b', hsp, hlk⟩ := R.called hru
  rintro _ g31 ⟨q31, o31⟩
  rcases q31 with ⟨a', b'', hsp', ⟨i, r', p', c', hl', hr', rfl, ok'⟩ | ⟨hl', -⟩⟩ | ⟨hno, -⟩
  rotate_left
  · obtain ⟨rfl, rfl⟩ := hsp.uniq hsp'
    rw [hlk] at hl'
    cases hl'
  · exact absurd hsp (hno _ _)
  obtain ⟨rfl, rfl⟩ := hsp.uniq hsp'
  rw [hlk] at hl'
  cases hl'
  rw [hru] at hr'
  cases hr'
  refine ⟨_, _, _, _, _, _, _, _, _, _, _, _, _, _, rfl, fun g46 e46 => ?_⟩
  obtain ⟨g47, k47, n47, o47, v47⟩ := put_new e46 (vs := setC { r with dp := p', dc := c' }) rfl
  have w47 := v47 [] (fun c hc => by cases hc)
  have oA := (o28.trans o31).trans o47
  have T47 := T.old (o25'.trans oA)
  refine ⟨rfl, g47, k47, fun _ => ⟨_, ld1_at w47.1 rfl, _, fld g47 oA 0 _ rfl, fun _ => ?_, fun y => absurd rfl y⟩, fun y => absurd rfl y⟩
  cases hs : r.snap with
  | true =>
    refine .inl ⟨fld g47 oA 2 _ (by simp [setC, hs]), _, fld g47 oA 0 _ rfl, (nextSpec kX kk.hang T47 r.id).mono ?_⟩
    obtain ⟨j, z, q1, q2, q3, q4, q5⟩ := R.nextOk hru hs
    rintro _ g52 ⟨rfl, o52⟩
    refine ⟨_, rfl, (findSpec kN kP kC (T47.old o52) _).mono ?_⟩
    rintro v g55 ⟨⟨i', r', p2, c2, e1, e2, rfl, ok2⟩ | ⟨e1, -⟩, o55⟩
    rotate_left
    · rw [q1] at e1; cases e1
    rw [q1] at e1
    cases e1
    rw [q2] at e2
    cases e2
    refine ⟨_, _, _, _, _, _, _, _, _, _, _, _, _, .inl ⟨rfl, fun g69 e69 => ?_⟩⟩
    obtain ⟨g70, k70, n70, o70, v70⟩ := put_new e69 (vs := setC { z with dp := p2, dc := c2 }) rfl
    have w70 := v70 [] (fun c hc => by cases hc)
    have oB := ((oA.trans o52).trans o55).trans o70
    refine ⟨rfl, g70, k70, _, ld1_at w70.1 rfl, _, fld g70 oB 3 _ rfl, fun _ => ⟨_, ld1_at w70.1 rfl, _, fld g70 oB 0 _ rfl, fun _ => ?_, fun y => absurd q4 y⟩, fun y => absurd q3 y⟩
    cases hz : z.snap with
    | true => exact .inl ⟨ld1_at w70.1 (by simp [setC, hz]), _, ld1_at w70.1 rfl, _, fld g70 oB 5 _ rfl, fun y => absurd (q5 hz) (Int.not_lt.2 y), fun _ => step g70 oB⟩
    | false => exact .inr ⟨ld1_at w70.1 (by simp [setC, hz]), step g70 oB⟩
  | false =>
    obtain ⟨hF, hE, hlen⟩ := R.chain hru hs
    refine .inr ⟨fld g47 oA 2 _ (by simp [setC, hs]), fun i30 i31 k g => ∃ w : Nat, i31 = w ∧ w ≤ n ∧ n - w = k ∧ Old g25 g ∧ i30 = (((rs.take w).filter fun x => x.snap && decide (x.own = r.id)).length : Nat), ⟨_, 0, rfl, Nat.zero_le _, rfl, oA, rfl⟩, ?_⟩
    rintro k82 g83 i85 i86 ⟨w, rfl, hw, rfl, o83, rfl⟩
    have hcw : ((rs.take w).filter fun x => x.snap && decide (x.own = r.id)).length ≤ w := Nat.le_trans (List.length_filter_le _ _) (by rw [List.length_take]; omega)
    refine ⟨fun y => ?_, fun y => ?_⟩
    · obtain ⟨hw2, hl2, h2, ok2⟩ := (T.old (o25'.trans o83)).at' (i := w) (by omega)
      have htk := List.take_succ_eq_append_getElem hw2
      refine derefP_at ⟨by omega, y, _, _, _, _, _, _, _, _, _, _, _, _, _, by rw [Int.toNat_natCast]; exact hl2, fun g102 e102 => ?_⟩
      obtain ⟨g103, k103, n103, o103, v103⟩ := put_new e102 (vs := setC rs[w]) rfl
      have w103 := v103 [] (fun c hc => by cases hc)
      have oC := o83.trans o103
      have next : ∀ (m : Int) (i : Int), i = IntKind.wrap .i64 ((w : Int) + 1) → m = (((rs.take (w + 1)).filter fun x => x.snap && decide (x.own = r.id)).length : Nat) → ∃ j84, j84 < n - w ∧ ∃ w : Nat, i = w ∧ w ≤ n ∧ n - w = j84 ∧ Old g25 g103 ∧ m = (((rs.take w).filter fun x => x.snap && decide (x.own = r.id)).length : Nat) := fun m i e hm => by
        have e := i64w e (by omega) (by omega)
        exact ⟨n - (w + 1), by omega, w + 1, by omega, by omega, rfl, oC, hm⟩
      refine ⟨rfl, g103, k103, ?_⟩
      cases hx : rs[w].snap with
      | true =>
        refine .inl ⟨ld1_at w103.1 (by simp [setC, hx]), _, ld1_at w103.1 rfl, _, fld g103 oC 0 _ rfl, fun e i106 e106 i107 e107 => ?_, fun e i108 e108 => next _ _ e108 ?_⟩
        · have e106 := i64w e106 (by omega) (by omega)
          refine next _ _ e107 ?_
          rw [htk, List.filter_append, List.length_append, e106]
          simp [hx, e]
        · rw [htk, List.filter_append, List.length_append]
          simp [hx, e]
      | false =>
        refine .inr ⟨ld1_at w103.1 (by simp [setC, hx]), fun i109 e109 => next _ _ e109 ?_⟩
        rw [htk, List.filter_append, List.length_append]
        simp [hx]
    · obtain rfl : w = n := by omega
      rw [List.take_of_length_le (by omega), ← hlen]
      have hlc : (wayR rs r.id).1.length ≤ 40 := by
        rw [hlen]
        exact Nat.le_trans (List.length_filter_le _ _) (by omega)
      refine ⟨_, fld g83 o83 0 _ rfl, (chainSpec kL kW kP (T.old (o25'.trans o83)) r.id).mono ?_⟩
      rintro _ g112 ⟨p113, n114, c115, rfl, G112, o112⟩
      have hnl : n114 = (wayR rs r.id).1.length := by have := G112.1; rw [u64I_len] at this; omega
      refine ⟨_, _, _, rfl, fun i120 i121 k g => ∃ v : Nat, i121 = v ∧ v ≤ n114 ∧ n114 - v = k ∧ Old g112 g ∧ Falls rs r.id i120 ((wayR rs r.id).1.drop v), ⟨_, 0, rfl, Nat.zero_le _, rfl, Old.refl _, hF⟩, ?_⟩
      rintro k117 g118 i120 i121 ⟨v, rfl, hv, rfl, o118, hFv⟩
      have o18 := o83.trans (o112.trans o118)
      refine ⟨fun y => ?_, fun y => ?_⟩
      · have hvl : v < (wayR rs r.id).1.length := by omega
        obtain ⟨b2, off2, rfl, hld⟩ := (G112.shows.old o118).get (i := v) (by omega)
        rw [u64I_get hvl] at hld
        rw [List.drop_eq_getElem_cons hvl] at hFv
        generalize (wayR rs r.id).1[v] = id at hld hFv
        obtain ⟨j, x, q1, q2, q3, q4, q5, q6⟩ := hFv
        refine derefP_at ⟨by omega, y, _, by rw [Int.toNat_natCast, Nat.mul_one]; exact hld, (findSpec kN kP kC (T.old (o25'.trans o18)) id).mono ?_⟩
        rintro v' g126 ⟨⟨i', r', p2, c2, e1, e2, rfl, ok2⟩ | ⟨e1, -⟩, o126⟩
        rotate_left
        · rw [q1] at e1; cases e1
        rw [q1] at e1
        cases e1
        rw [q2] at e2
        cases e2
        refine ⟨_, _, _, _, _, _, _, _, _, _, _, _, _, .inl ⟨rfl, fun g140 e140 => ?_⟩⟩
        obtain ⟨g141, k141, n141, o141, v141⟩ := put_new e140 (vs := setC { x with dp := p2, dc := c2 }) rfl
        have w141 := v141 [] (fun c hc => by cases hc)
        have oD := (o18.trans o126).trans o141
        refine ⟨rfl, g141, k141, _, ld1_at w141.1 rfl, _, fld g141 oD 0 _ rfl, fun _ => ⟨_, ld1_at w141.1 rfl, fun y => absurd q5 (Int.not_lt.2 y), fun _ => ⟨_, ld1_at w141.1 rfl, fun i146 e146 => ?_⟩⟩, fun y => absurd q3 y⟩
        have e146 := i64w e146 (by omega) (by omega)
        exact ⟨n114 - (v + 1), by omega, v + 1, by omega, by omega, rfl, (o118.trans o126).trans o141, q6⟩
      · refine ⟨_, fld g118 o18 0 _ rfl, (originSpec kO kW kP (T.old (o25'.trans o18)) r.id).mono ?_⟩
        rintro _ g151 ⟨rfl, o151⟩
        refine ⟨_, rfl, (findSpec kN kP kC (T.old (o25'.trans (o18.trans o151))) _).mono ?_⟩
        rintro v' g154 ⟨⟨i', x, p2, c2, e1, e2, rfl, ok2⟩ | ⟨e1, rfl⟩, o154⟩
        · refine ⟨_, _, _, _, _, _, _, _, _, _, _, _, _, .inl ⟨rfl, fun g168 e168 => ?_⟩⟩
          obtain ⟨g169, k169, n169, o169, v169⟩ := put_new e168 (vs := setC { x with dp := p2, dc := c2 }) rfl
          have w169 := v169 [] (fun c hc => by cases hc)
          have oE := ((o18.trans o151).trans o154).trans o169
          rcases hE with e0 | ⟨j, x', q1, q2, q3, q4⟩
          · rw [e0, R.zero] at e1
            cases e1
          rw [q1] at e1
          cases e1
          rw [q2] at e2
          cases e2
          exact ⟨rfl, g169, k169, fun _ => ⟨_, ld1_at w169.1 rfl, _, fld g169 oE 0 _ rfl, fun y => absurd y q4, fun _ => .inl ⟨ld1_at w169.1 (by simp [setC, q3]), step g169 oE⟩⟩, fun y => absurd (by omega) y⟩
        · refine ⟨_, _, _, _, _, _, _, _, _, _, _, _, _, .inr ⟨rfl, fun g173 e173 => ?_⟩⟩
          obtain ⟨g174, k174, n174, o174, v174⟩ := put_new e173 (vs := setC zeroR) rfl
          have oE := ((o18.trans o151).trans o154).trans o174
          exact ⟨rfl, g174, k174, fun _ => step g174 oE, fun y => absurd (by omega) y⟩
end
end Go.Am
