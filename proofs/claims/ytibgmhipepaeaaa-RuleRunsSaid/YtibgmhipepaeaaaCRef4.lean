/-
  THE DOCUMENT'S ANSWERS of layer 16: names of records.
-/
import Derived.Test.YtibgmhipepaeaaaCRef3
set_option linter.unusedVariables false
set_option linter.unusedSimpArgs false
set_option maxRecDepth 100000
namespace Go.Am
open Go.Proofs
section
variable {K : Xs} {h : AH} {p : Option Addr} {n c : Nat} {rs : List SetR} {nx : Int}
theorem RightP.fuel (R : RightP nx rs) {o : Int} : ∀ (k k' : Nat) (pr B : Int) (ch : List Int), (pr = 0 ∨ ∃ j x, plcN rs pr = some j ∧ rs[j]? = some x ∧ x.snap = true ∧ x.stamp < B) → (rs.filter fun x => x.snap && decide (x.stamp < B)).length ≤ k → (rs.filter fun x => x.snap && decide (x.stamp < B)).length ≤ k' →
 wayW rs o k pr ch = wayW rs o k' pr ch
 | k, k', pr, B, ch, .inl h0, hk, hk' => by rw [h0, wayW_zero, wayW_zero]
 | 0, k', pr, B, ch, .inr ⟨j, x, h1, h2, h3, h4⟩, hk, hk' => by
   have : x ∈ rs.filter fun x => x.snap && decide (x.stamp < B) := List.mem_filter.2 ⟨List.mem_of_getElem? h2, by simp [h3, h4]⟩
   have := List.length_pos_of_mem this
   omega
 | k, 0, pr, B, ch, .inr ⟨j, x, h1, h2, h3, h4⟩, hk, hk' => by
   have : x ∈ rs.filter fun x => x.snap && decide (x.stamp < B) := List.mem_filter.2 ⟨List.mem_of_getElem? h2, by simp [h3, h4]⟩
   have := List.length_pos_of_mem this
   omega
 | k + 1, k' + 1, pr, B, ch, .inr ⟨j, x, h1, h2, h3, h4⟩, hk, hk' => by
   have hx := List.mem_of_getElem? h2
   unfold wayW
   simp only [h1, h2]
   split
   ·rfl
   ·split
    ·have hlt := filter_ltF (P := fun a : SetR => a.snap && decide (a.stamp < x.stamp)) (Q := fun a : SetR => a.snap && decide (a.stamp < B)) (l := rs) (fun a _ h => by simp at h ⊢; exact ⟨h.1, by omega⟩) ⟨x, hx, by simp [h3, h4], by simp⟩
     refine R.fuel (o := o) k k' x.prev x.stamp (ch ++ [pr]) ?_ (by omega) (by omega)
     by_cases hp : x.prev = 0
     ·exact .inl hp
     ·obtain ⟨j', x', k1, k2, k3, k4⟩ := (R.2.2.2.2 x hx).1.1 hp
      exact .inr ⟨j', x', k1, k2, k3, k4 h3⟩
    ·rfl
theorem RightP.back (R : RightP nx rs) (id : Int) : backR rs id = wayR rs id := by
 unfold backR wayR
 cases e : plcN rs id with
 | none => rfl
 | some i =>
   simp only
   cases h : rs[i]? with
   | none => rfl
   | some v =>
     simp only
     split
     ·rfl
     ·have hv := List.mem_of_getElem? h
      have hst : ∀ x ∈ rs, x.snap = true → x.stamp < 281474976710656 := fun x hx hxs => by
       rcases (R.ent hx).2.2.2.2.2.2.2.2 with q | q
       ·omega
       ·rw [hxs] at q; cases q.1
      refine R.fuel (o := id) rs.length 32 v.prev 281474976710656 [] ?_ (List.length_filter_le _ _) (Nat.le_trans (List.length_filter_le _ _) R.2.1)
      by_cases hp : v.prev = 0
      ·exact .inl hp
      ·obtain ⟨j', x', k1, k2, k3, k4⟩ := (R.2.2.2.2 v hv).1.1 hp
       exact .inr ⟨j', x', k1, k2, k3, hst x' (List.mem_of_getElem? k2) k3⟩
def NamedQ2 (rs : List SetR) (f : ByteArray) (v : Value) : Prop :=
 (∃ a b, SplitOk f a b ∧ ((∃ i r, lookN rs a b = some i ∧ rs[i]? = some r ∧ v = .tuple #[.agg (setC r).toArray, .int .i64 0]) ∨ (lookN rs a b = none ∧ v = .tuple #[.agg (setC zeroR).toArray, .int .i64 161]))) ∨
 ((∀ a b, ¬ SplitOk f a b) ∧ v = .tuple #[.agg (setC zeroR).toArray, .int .i64 141])
theorem RightP.look0 (R : RightP nx rs) {i : Nat} {v : SetR} {a : ByteArray} (h : rs[i]? = some v) (hs : v.snap = false) (hn : v.name = a) : Am.plcC rs (0, a) = some i := by
 have := R.plcC h
 rw [show calK v = (0, a) by simp [calK, hs, hn]] at this
 exact this
theorem RightP.look1 (R : RightP nx rs) {i : Nat} {s : SetR} {o : Int} {b : ByteArray} (h : rs[i]? = some s) (hs : s.snap = true) (ho : s.own = o) (hn : s.name = b) : Am.plcC rs (o, b) = some i := by
 have := R.plcC h
 rw [show calK s = (o, b) by simp [calK, hs, hn, ho]] at this
 exact this
theorem RightP.calk (R : RightP nx rs) {r : SetR} (hr : r ∈ rs) {o : Int} {b : ByteArray} (h : calK r = (o, b)) : r.name = b ∧ (o = 0 → r.snap = false) ∧ (o ≠ 0 → r.snap = true ∧ r.own = o) := by
 have e := (R.ent hr).2.1
 unfold calK at h
 cases hs : r.snap with
 | true =>
   rw [hs] at h
   simp at h
   exact ⟨h.2, fun z => by omega, fun _ => ⟨rfl, h.1⟩⟩
 | false =>
   rw [hs] at h
   simp at h
   exact ⟨h.2, fun _ => rfl, fun z => absurd h.1.symm z⟩
theorem named16 (kk : KRef16 K) (T : Sets h p n rs) (R : RightP nx rs) (f : ByteArray) (hf : f.size ≤ 9223372036854775806) : Wf Try.prog K 26 [.slice p n c, .string f] h fun v h' => NamedQ2 rs f v ∧ Old h h' := by
 have hn := T.1
 have hn32 := R.2.1
 refine vc_aquiferref16_Named kk.named _ _ _ _ h _ fun g0 e0 => (split14 kk.r15.r1 f hf).mono ?_
 have o0 := old_of_alloc e0
 have n0 := next_of_alloc e0
 have c0 : g0.get h.next = some (.cells (setC zeroR) 28 false) := get_of_alloc e0
 have out : ∀ (g : AH) (r : SetR) (e : Int), Old g0 g → NamedQ2 rs f (.tuple #[.agg (setC r).toArray, .int .i64 e]) →
  ∃ g1, stN g h.next 0 (setC r) = some g1 ∧ ∃ i10 s11 b12 i13 i14 i15 i16 i17 i18 i19, ∃ (p20 : Option Addr) (n21 c22 : Nat), ldN g1 h.next 0 11 = some ([(.int .u64 i10), (.string s11), (.bool b12), (.int .u64 i13), (.int .u64 i14), (.int .u64 i15), (.int .i64 i16), (.int .i64 i17), (.int .u64 i18), (.int .u32 i19), (.slice p20 n21 c22)] : List Value) ∧
  (NamedQ2 rs f (.tuple #[(.agg #[(.int .u64 i10), (.string s11), (.bool b12), (.int .u64 i13), (.int .u64 i14), (.int .u64 i15), (.int .i64 i16), (.int .i64 i17), (.int .u64 i18), (.int .u32 i19), (.slice p20 n21 c22)]), (.int .i64 e)]) ∧ Old h g1) := by
  intro g r e o q
  have nr := near_set h.next g (.cells (setC r) 28 false)
  exact ⟨_, stN_all ((o.2 _ (by omega)).trans c0) rfl, _, _, _, _, _, _, _, _, _, _, _, _, _, ldN_all (get_set_self _ _ _) rfl, q, by rw [nr.1]; have := o.1; omega, fun c hc => by rw [nr.2 c (by omega), o.2 c (by omega), o0.2 c hc]⟩
 rintro _ _ ⟨⟨a, b, hs, rfl⟩ | ⟨hs, rfl⟩, rfl⟩
 rotate_left
 ·exact ⟨_, _, _, rfl, fun e => absurd e (by decide), fun _ => ⟨rfl, out g0 zeroR 141 (Old.refl _) (.inr ⟨hs, rfl⟩)⟩⟩
 refine ⟨_, _, _, rfl, fun _ => ⟨fun i k g => ∃ u : Nat, i = u ∧ u ≤ n ∧ n - u = k ∧ Old g0 g ∧ ∀ (j : Nat) x, j < u → rs[j]? = some x → ¬ (x.snap = false ∧ x.name = a) ∨ (b ≠ noB ∧ ∀ y ∈ rs, ¬ (y.snap = true ∧ y.own = x.id ∧ y.name = b)), ⟨_, 0, rfl, Nat.zero_le _, rfl, Old.refl _, fun j x hj => absurd hj (Nat.not_lt_zero _)⟩, ?_⟩, fun e => absurd rfl e⟩
 rintro k7 g8 i10 ⟨u, rfl, hu, rfl, o8, hb⟩
 refine ⟨fun z => ?_, fun z => ⟨rfl, out g8 zeroR 161 o8 (.inl ⟨a, b, hs, .inr ⟨?_, rfl⟩⟩)⟩⟩
 ·obtain ⟨b1, off, rfl, hi', hl, h1, ok⟩ := (T.old (o0.trans o8)).at (i := u) (by omega)
  have hru := List.getElem?_eq_getElem hi'
  generalize rs[u] = v at hl h1 ok hru
  refine derefP_at ⟨by omega, z, _, _, _, _, _, _, _, _, _, _, _, _, _, by rw [Int.toNat_natCast]; exact hl, fun g26 e26 => ?_⟩
  obtain ⟨g27, k27, n27, o27, v27⟩ := put_new e26 (vs := setC v) rfl
  have w27 := v27 [] (fun c hc => by cases hc)
  have step : ∀ g, Old g27 g → (¬ (v.snap = false ∧ v.name = a) ∨ (b ≠ noB ∧ ∀ y ∈ rs, ¬ (y.snap = true ∧ y.own = v.id ∧ y.name = b))) → ∀ i28 : Int, i28 = IntKind.wrap .i64 ((u : Int) + 1) → ∃ j9, j9 < n - u ∧ ∃ u : Nat, i28 = u ∧ u ≤ n ∧ n - u = j9 ∧ Old g0 g ∧ ∀ (j : Nat) x, j < u → rs[j]? = some x → ¬ (x.snap = false ∧ x.name = a) ∨ (b ≠ noB ∧ ∀ y ∈ rs, ¬ (y.snap = true ∧ y.own = x.id ∧ y.name = b)) := by
   intro g o q i28 e28
   have e28 := i64w e28 (by omega) (by omega)
   refine ⟨n - (u + 1), by omega, u + 1, by omega, by omega, rfl, (o8.trans o27).trans o, fun j x hj hx => ?_⟩
   rcases Nat.lt_succ_iff_lt_or_eq.1 hj with hj | rfl
   ·exact hb j x hj hx
   ·rw [hru] at hx
    cases hx
    exact q
  refine ⟨rfl, g27, k27, ?_⟩
  cases hvs : v.snap with
  | true => exact .inl ⟨ld1_at w27.1 (by simp [setC, hvs]), step g27 (Old.refl _) (.inl fun q => by rw [hvs] at q; cases q.1)⟩
  | false =>
    refine .inr ⟨ld1_at w27.1 (by simp [setC, hvs]), _, ld1_at w27.1 rfl, fun hva => ⟨fun hbn => ?_, fun hbn => ⟨fun i k g => ∃ w : Nat, i = w ∧ w ≤ n ∧ n - w = k ∧ Old g27 g ∧ ∀ (j : Nat) y, j < w → rs[j]? = some y → ¬ (y.snap = true ∧ y.own = v.id ∧ y.name = b), ⟨_, 0, rfl, Nat.zero_le _, rfl, Old.refl _, fun j x hj => absurd hj (Nat.not_lt_zero _)⟩, ?_⟩⟩, fun hva => step g27 (Old.refl _) (.inl fun q => hva q.2)⟩
    ·have hbn : b = noB := hbn
     have hl2 : lookN rs a b = some u := by
      unfold lookN
      rw [R.look0 hru hvs hva]
      simp [hbn]
     exact ⟨_, _, _, _, _, _, _, _, _, _, _, _, _, ldN_all w27.1 rfl, rfl, out g27 v 0 (o8.trans o27) (.inl ⟨a, b, hs, .inl ⟨u, v, hl2, hru, rfl⟩⟩)⟩
    ·have hbn : b ≠ noB := hbn
     rintro k58 g59 i61 ⟨w, rfl, hw, rfl, o59, hb2⟩
     refine ⟨fun y => ?_, fun y => step g59 o59 (.inr ⟨hbn, fun x hx => ?_⟩)⟩
     ·obtain ⟨hi2, hl2, h2, ok2⟩ := (T.old ((o0.trans o8).trans (o27.trans o59))).at' (i := w) (by omega)
      have hrw := List.getElem?_eq_getElem hi2
      generalize rs[w] = x at hl2 h2 ok2 hrw
      refine derefP_at ⟨by omega, y, _, _, _, _, _, _, _, _, _, _, _, _, _, by rw [Int.toNat_natCast]; exact hl2, fun g77 e77 => ?_⟩
      obtain ⟨g78, k78, n78, o78, v78⟩ := put_new e77 (vs := setC x) rfl
      have w78 := v78 [] (fun c hc => by cases hc)
      have cv := (w27.old (o59.trans o78)).1
      have stepI : ¬ (x.snap = true ∧ x.own = v.id ∧ x.name = b) → ∀ i : Int, i = IntKind.wrap .i64 ((w : Int) + 1) → ∃ j60, j60 < n - w ∧ ∃ w : Nat, i = w ∧ w ≤ n ∧ n - w = j60 ∧ Old g27 g78 ∧ ∀ (j : Nat) y, j < w → rs[j]? = some y → ¬ (y.snap = true ∧ y.own = v.id ∧ y.name = b) := by
       intro q i e
       have e := i64w e (by omega) (by omega)
       refine ⟨n - (w + 1), by omega, w + 1, by omega, by omega, rfl, o59.trans o78, fun j y hj hy => ?_⟩
       rcases Nat.lt_succ_iff_lt_or_eq.1 hj with hj | rfl
       ·exact hb2 j y hj hy
       ·rw [hrw] at hy
        cases hy
        exact q
      refine ⟨rfl, g78, k78, ?_⟩
      cases hxs : x.snap with
      | false => exact .inr ⟨ld1_at w78.1 (by simp [setC, hxs]), stepI fun q => by rw [hxs] at q; cases q.1⟩
      | true =>
        refine .inl ⟨ld1_at w78.1 (by simp [setC, hxs]), _, ld1_at w78.1 rfl, _, ld1_at cv rfl, fun ho => ⟨_, ld1_at w78.1 rfl, fun hxb => ?_, fun hxb => stepI fun q => hxb q.2.2⟩, fun ho => stepI fun q => ho q.2.1⟩
        have hl2 : lookN rs a b = some w := by
         unfold lookN
         rw [R.look0 hru hvs hva]
         simp only
         rw [if_neg hbn]
         simp only [hru]
         exact R.look1 hrw hxs ho hxb
        exact ⟨_, _, _, _, _, _, _, _, _, _, _, _, _, ldN_all w78.1 rfl, rfl, out g78 x 0 (o8.trans (o27.trans (o59.trans o78))) (.inl ⟨a, b, hs, .inl ⟨w, x, hl2, hrw, rfl⟩⟩)⟩
     ·obtain ⟨j, hj⟩ := List.mem_iff_getElem?.1 hx
      exact hb2 j x (by have := (List.getElem?_eq_some_iff.1 hj).1; omega) hj
 ·unfold lookN
  cases e : plcC rs (0, a) with
  | none => rfl
  | some i =>
    obtain ⟨x, hx, hc⟩ := plcC_at e
    have hxm := List.mem_of_getElem? hx
    obtain ⟨c1, c2, -⟩ := R.calk hxm hc
    rcases hb i x (by have := (List.getElem?_eq_some_iff.1 hx).1; omega) hx with q | ⟨q1, q2⟩
    ·exact absurd ⟨c2 rfl, c1⟩ q
    ·simp only
     rw [if_neg q1]
     simp only [hx]
     cases e2 : plcC rs (x.id, b) with
     | none => rfl
     | some w =>
       obtain ⟨y, hy, hcy⟩ := plcC_at e2
       obtain ⟨d1, -, d3⟩ := R.calk (List.mem_of_getElem? hy) hcy
       have := (R.ent hxm).1.1
       obtain ⟨d4, d5⟩ := d3 (by omega)
       exact absurd ⟨d4, d5, d1⟩ (q2 y (List.mem_of_getElem? hy))
end
end Go.Am
