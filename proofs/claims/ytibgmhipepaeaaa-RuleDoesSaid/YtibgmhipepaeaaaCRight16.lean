/-
  WHICH LISTS ARE FAMILIES, as the document says: all of it.
-/
import Derived.Test.YtibgmhipepaeaaaCRef4
set_option linter.unusedVariables false
set_option linter.unusedSimpArgs false
set_option maxRecDepth 100000
namespace Go.Am
open Go.Proofs
def flrD (rs : List SetR) (id : Int) : Int := match plcN rs id with
 | none => 0
 | some i => match rs[i]? with
   | none => 0
   | some r => match plcN rs r.prev with
     | none => 0
     | some j => match rs[j]? with
       | none => 0
       | some x => x.stamp
theorem flrD_eq {rs : List SetR} (hz : plcN rs 0 = none) (id : Int) : flrD rs id = flr rs id := by
 unfold flrD flr
 cases plcN rs id with
 | none => rfl
 | some i =>
   simp only
   cases rs[i]? with
   | none => rfl
   | some r =>
     simp only
     by_cases hp : r.prev = 0
     ·rw [if_pos hp, hp, hz]
     ·rw [if_neg hp]
      rfl
def PrevG (rs : List SetR) (s : SetR) : Prop := (∃ j x, plcN rs s.prev = some j ∧ rs[j]? = some x ∧ (s.prev ≠ 0 → x.snap = true) ∧ (s.snap = true → x.stamp < s.stamp)) ∨ (plcN rs s.prev = none ∧ s.prev = 0)
def NameG (rs : List SetR) (u : Nat) (s : SetR) : Prop := ∀ (k : Nat) t, rs[k]? = some t → k ≠ u → ¬ (t.snap = s.snap ∧ t.name = s.name ∧ (s.snap = false ∨ t.own = s.own))
structure Good16 (nx : Int) (rs : List SetR) (u : Nat) (s : SetR) : Prop where
 ent : EntR s
 lt : s.id < nx
 ord : ∀ (j : Nat) x, u = j + 1 → rs[j]? = some x → x.id < s.id
 vol : ∃ j v, plcN rs s.own = some j ∧ rs[j]? = some v ∧ v.snap = false
 prev : PrevG rs s
 own : s.snap = true → (ownL rs s.id).length = 1
 dead : ∀ q ∈ s.dead, q.2.1 ≤ flrD rs s.id
 name : NameG rs u s
theorem RightP.good {nx : Int} {rs : List SetR} (R : RightP nx rs) {u : Nat} {s : SetR} (h : rs[u]? = some s) : Good16 nx rs u s := by
 have hm := List.mem_of_getElem? h
 have hu := R.uniq h
 obtain ⟨e1, e2, e3⟩ := R.2.2.1 u s h
 obtain ⟨⟨el1, el2⟩, ow⟩ := R.2.2.2.2 s hm
 refine ⟨e1, e2, e3, ?_, ?_, fun hs => ?_, fun q hq => ?_, fun k t hk hne hc => ?_⟩
 ·obtain ⟨j, v, h1, h2, h3, -⟩ := R.vol hm
  exact ⟨j, v, h1, h2, h3⟩
 ·by_cases hp : s.prev = 0
  ·exact .inr ⟨by rw [hp]; exact R.zero, hp⟩
  ·obtain ⟨j, x, h1, h2, h3, h4⟩ := el1 hp
   exact .inl ⟨j, x, h1, h2, fun _ => h3, h4⟩
 ·have := (ow hs).2
  unfold ownL
  simp only [hu, h, hs, if_true, List.length_map]
  exact this
 ·rw [flrD_eq R.zero, flr_of hu h]
  exact el2 q hq
 ·have h1 := R.plcC h
  have h2 := R.plcC hk
  have : calK t = calK s := by
   unfold calK
   rw [hc.1, hc.2.1]
   rcases hc.2.2 with e | e
   ·rw [e]; rfl
   ·rw [e]
  rw [this, h1] at h2
  exact hne (Option.some.inj h2).symm
theorem good_right {nx : Int} {rs : List SetR} (h1 : nx ≤ 281474976710655) (h2 : rs.length ≤ 32) (h : ∀ (u : Nat) s, rs[u]? = some s → Good16 nx rs u s) : RightP nx rs := by
 have incr : ∀ (d i : Nat) (a b : SetR), rs[i]? = some a → rs[i + d + 1]? = some b → a.id < b.id := by
  intro d
  induction d with
  | zero => intro i a b ha hb; exact (h _ b hb).ord i a rfl ha
  | succ d ih =>
    intro i a b ha hb
    have hl := (List.getElem?_eq_some_iff.1 hb).1
    have hc := List.getElem?_eq_getElem (show i + d + 1 < rs.length by omega)
    have := ih i a _ ha hc
    have := (h _ b hb).ord (i + d + 1) _ (by omega) hc
    omega
 have uniq : ∀ (i : Nat) r, rs[i]? = some r → plcN rs r.id = some i := fun i r hi => plcN_some hi rfl fun j x hj hx e => by
  have := incr (i - j - 1) j x r hx (by rw [show j + (i - j - 1) + 1 = i by omega]; exact hi)
  omega
 have zero : plcN rs 0 = none := plcN_none fun r hr => by
  obtain ⟨i, hi⟩ := List.mem_iff_getElem?.1 hr
  have := (h i r hi).ent.1.1
  omega
 refine ⟨h1, h2, fun i r hi => ⟨(h i r hi).ent, (h i r hi).lt, (h i r hi).ord⟩, ?_, fun r hr => ?_⟩
 ·rw [List.nodup_iff_pairwise_ne, List.pairwise_iff_getElem]
  intro i j hi hj hij
  rw [List.getElem_map, List.getElem_map]
  intro e
  have hi' : i < rs.length := by simpa using hi
  have hj' : j < rs.length := by simpa using hj
  have ga := h i _ (List.getElem?_eq_getElem hi')
  have gb := h j _ (List.getElem?_eq_getElem hj')
  refine ga.name j _ (List.getElem?_eq_getElem hj') (by omega) ?_
  have oa := ga.ent.2.1
  have ob := gb.ent.2.1
  generalize rs[i] = a at e oa
  generalize rs[j] = b at e ob
  unfold calK at e
  cases ha : a.snap <;> cases hb : b.snap <;> rw [ha, hb] at e <;> simp at e
  ·exact ⟨rfl, e.symm, .inl rfl⟩
  ·omega
  ·omega
  ·exact ⟨rfl, e.2.symm, .inr e.1.symm⟩
 ·obtain ⟨i, hi⟩ := List.mem_iff_getElem?.1 hr
  have g := h i r hi
  refine ⟨⟨fun hp => ?_, fun q hq => ?_⟩, fun hs => ⟨g.vol, ?_⟩⟩
  ·rcases g.prev with ⟨j, x, q1, q2, q3, q4⟩ | ⟨-, q⟩
   ·exact ⟨j, x, q1, q2, q3 hp, q4⟩
   ·exact absurd q hp
  ·have := g.dead q hq
   rw [flrD_eq zero, flr_of (uniq i r hi) hi] at this
   exact this
  ·have := g.own hs
   unfold ownL at this
   simp only [uniq i r hi, hi, hs, if_true, List.length_map] at this
   exact this
section
variable {K : Xs} {h : AH} {p : Option Addr} {n c : Nat} {rs : List SetR} {nx : Int}
theorem floorD16 (kk : KRef16 K) (T : Sets h p n rs) (id : Int) : Wf Try.prog K 33 [.slice p n c, .int .u64 id] h fun v h' => v = .int .u64 (flrD rs id) ∧ Old h h' := by
 refine vc_aquiferref16_Floor kk.floor _ _ _ _ h _ ((find16 kk T id).mono ?_)
 rintro _ g1 ⟨⟨i, r, e1, e2, rfl⟩ | ⟨e1, rfl⟩, o1⟩
 ·refine ⟨_, _, _, _, _, _, _, _, _, _, _, _, _, .inl ⟨rfl, fun g15 e15 => ?_⟩⟩
  obtain ⟨g16, k16, n16, o16, v16⟩ := put_new e15 (vs := setC r) rfl
  have w16 := v16 [] (fun c hc => by cases hc)
  refine ⟨rfl, g16, k16, _, ld1_at w16.1 rfl, (find16 kk (T.old (o1.trans o16)) r.prev).mono ?_⟩
  rintro _ g19 ⟨⟨j, x, f1, f2, rfl⟩ | ⟨f1, rfl⟩, o19⟩
  ·refine ⟨_, _, _, _, _, _, _, _, _, _, _, _, _, .inl ⟨rfl, fun g33 e33 => ?_⟩⟩
   obtain ⟨g34, k34, n34, o34, v34⟩ := put_new e33 (vs := setC x) rfl
   have w34 := v34 [] (fun c hc => by cases hc)
   refine ⟨rfl, g34, k34, _, ld1_at w34.1 rfl, ?_, ((o1.trans o16).trans o19).trans o34⟩
   unfold flrD
   simp only [e1, e2, f1, f2]
  ·refine ⟨_, _, _, _, _, _, _, _, _, _, _, _, _, .inr ⟨rfl, fun g33 e33 => ?_⟩⟩
   obtain ⟨g34, k34, n34, o34, v34⟩ := put_new e33 (vs := setC zeroR) rfl
   refine ⟨rfl, g34, k34, ?_, ((o1.trans o16).trans o19).trans o34⟩
   unfold flrD
   simp only [e1, e2, f1]
 ·refine ⟨_, _, _, _, _, _, _, _, _, _, _, _, _, .inr ⟨rfl, fun g15 e15 => ?_⟩⟩
  obtain ⟨g16, k16, n16, o16, v16⟩ := put_new e15 (vs := setC zeroR) rfl
  refine ⟨rfl, g16, k16, ?_, o1.trans o16⟩
  unfold flrD
  simp only [e1]
abbrev right3_t1 (K : Xs) (sb : Nat) (nx : Int) (rs : List SetR) (h : AH) (h133 : AH) (h114 : AH) (i116 : Int) (k113 : Nat) (I112 : Int → Nat → AH → Prop) : Prop :=
 (∃ s135 : ByteArray, ld1 h133 h114.next 1 = some (.string s135) ∧
   (∃ s136 : ByteArray, ld1 h133 sb 1 = some (.string s136) ∧
   ((s135 = s136 → ((ld1 h133 sb 2 = some (.bool true) ∧
   (∃ i137 : Int, ld1 h133 h114.next 3 = some (.int .u64 i137) ∧
   (∃ i138 : Int, ld1 h133 sb 3 = some (.int .u64 i138) ∧
   (((i137 : Int) = i138 → (BoolIs (.bool false) (RightP nx rs) ∧ Old h h133)) ∧
   (¬ (i137 : Int) = i138 → ∀ i139 : Int, i139 = IntKind.wrap .i64 (i116 + 1) → ∃ j115, j115 < k113 ∧ I112 i139 j115 h133))))) ∨ (ld1 h133 sb 2 = some (.bool false) ∧
   ((BoolIs (.bool false) (RightP nx rs) ∧ Old h h133))))) ∧
   (¬ s135 = s136 → ∀ i140 : Int, i140 = IntKind.wrap .i64 (i116 + 1) → ∃ j115, j115 < k113 ∧ I112 i140 j115 h133))))
theorem right3 (kk : KRef16 K) {H : AH} {sb : Nat} {s : SetR} {u : Nat} {i4 : Int} {E : AH → Prop} (T : Sets H p n rs) (hn32 : n ≤ 32) (hu : rs[u]? = some s) (hi4 : i4 = (u : Int)) (ok : SetOk H s) (cb : H.get sb = some (.cells (setC s) 28 false)) (lt : sb < H.next)
 (hno : ∀ g, Old H g → ¬ Good16 nx rs u s → (BoolIs (.bool false) (RightP nx rs) ∧ Old h g)) (hE : ∀ g, Old H g → (∀ q ∈ s.dead, q.2.1 ≤ flrD rs s.id) → NameG rs u s → E g) :
 ∃ (p91 : Option Addr) (n92 c93 : Nat), ld1 H sb 10 = some (.slice p91 n92 c93) ∧
 (∃ I94 : Int → Nat → AH → Prop, (∃ n, I94 0 n H) ∧
 ∀ (k95 : Nat) (h96 : AH) (i98 : Int), I94 i98 k95 h96 →
 ((i98 : Int) < ((n92 : Nat) : Int) → derefP p91 fun b99 o100 => (((0 : Int) ≤ i98) ∧ ((i98 : Int) < ((n92 : Nat) : Int)) ∧
 (∃ i101 : Int, ∃ i102 : Int, ∃ i103 : Int, ldN h96 b99 (o100 + Int.toNat i98 * 3) 3 = some ([(.int .i64 i101), (.int .u64 i102), (.int .u32 i103)] : List Value) ∧
 (∀ h104 : AH, h104 = h96.alloc (.cells ([(.int .i64 0), (.int .u64 0), (.int .u32 0)] : List Value) 25 false) →
 (List.length ([(.int .i64 i101), (.int .u64 i102), (.int .u32 i103)] : List Value) = 3) ∧ ∃ h105 : AH, stN h104 h96.next 0 ([(.int .i64 i101), (.int .u64 i102), (.int .u32 i103)] : List Value) = some h105 ∧
 (∃ i106 : Int, ld1 h105 sb 0 = some (.int .u64 i106) ∧
 (Wf Try.prog K 33 [(.slice p n c), (.int .u64 i106)] h105 fun r107 h108 =>
 (∃ i109 : Int, r107 = (.int .u64 i109) ∧
 (∃ i110 : Int, ld1 h108 h96.next 1 = some (.int .u64 i110) ∧
 (((i109 : Int) < i110 → (ld1 h105 h96.next 1 = some (.int .u64 i110)) ∧
 ((ld1 h108 h96.next 1 = some (.int .u64 i110)) ∧
 ((BoolIs (.bool false) (RightP nx rs) ∧ Old h h108)))) ∧
 (¬ (i109 : Int) < i110 → (ld1 h105 h96.next 1 = some (.int .u64 i110)) ∧
 ((ld1 h108 h96.next 1 = some (.int .u64 i110)) ∧
 (∀ i111 : Int, i111 = IntKind.wrap .i64 (i98 + 1) → ∃ j97, j97 < k95 ∧ I94 i111 j97 h108)))))))))))) ∧
 (¬ (i98 : Int) < ((n92 : Nat) : Int) → ∃ I112 : Int → Nat → AH → Prop, (∃ n, I112 0 n h96) ∧
 ∀ (k113 : Nat) (h114 : AH) (i116 : Int), I112 i116 k113 h114 →
 ((i116 : Int) < ((n : Nat) : Int) → derefP p fun b117 o118 => (((0 : Int) ≤ i116) ∧ ((i116 : Int) < ((n : Nat) : Int)) ∧
 (∃ i119 : Int, ∃ s120 : ByteArray, ∃ b121 : Bool, ∃ i122 : Int, ∃ i123 : Int, ∃ i124 : Int, ∃ i125 : Int, ∃ i126 : Int, ∃ i127 : Int, ∃ i128 : Int, ∃ (p129 : Option Addr) (n130 c131 : Nat), ldN h114 b117 (o118 + Int.toNat i116 * 11) 11 = some ([(.int .u64 i119), (.string s120), (.bool b121), (.int .u64 i122), (.int .u64 i123), (.int .u64 i124), (.int .i64 i125), (.int .i64 i126), (.int .u64 i127), (.int .u32 i128), (.slice p129 n130 c131)] : List Value) ∧
 (∀ h132 : AH, h132 = h114.alloc (.cells ([(.int .u64 0), (.string (ByteArray.mk #[])), (.bool false), (.int .u64 0), (.int .u64 0), (.int .u64 0), (.int .i64 0), (.int .i64 0), (.int .u64 0), (.int .u32 0), (.slice none 0 0)] : List Value) 28 false) →
 (List.length ([(.int .u64 i119), (.string s120), (.bool b121), (.int .u64 i122), (.int .u64 i123), (.int .u64 i124), (.int .i64 i125), (.int .i64 i126), (.int .u64 i127), (.int .u32 i128), (.slice p129 n130 c131)] : List Value) = 11) ∧ ∃ h133 : AH, stN h132 h114.next 0 ([(.int .u64 i119), (.string s120), (.bool b121), (.int .u64 i122), (.int .u64 i123), (.int .u64 i124), (.int .i64 i125), (.int .i64 i126), (.int .u64 i127), (.int .u32 i128), (.slice p129 n130 c131)] : List Value) = some h133 ∧
 (((i116 : Int) = i4 → ∀ i134 : Int, i134 = IntKind.wrap .i64 (i116 + 1) → ∃ j115, j115 < k113 ∧ I112 i134 j115 h133) ∧
 (¬ (i116 : Int) = i4 → ((ld1 h133 h114.next 2 = some (.bool true) ∧
 (((ld1 h133 sb 2 = some (.bool true) ∧
 (right3_t1 K sb nx rs h h133 h114 i116 k113 I112)) ∨ (ld1 h133 sb 2 = some (.bool false) ∧
 (∀ i141 : Int, i141 = IntKind.wrap .i64 (i116 + 1) → ∃ j115, j115 < k113 ∧ I112 i141 j115 h133))))) ∨ (ld1 h133 h114.next 2 = some (.bool false) ∧
 (((ld1 h133 sb 2 = some (.bool true) ∧
 (∀ i142 : Int, i142 = IntKind.wrap .i64 (i116 + 1) → ∃ j115, j115 < k113 ∧ I112 i142 j115 h133)) ∨ (ld1 h133 sb 2 = some (.bool false) ∧
 (right3_t1 K sb nx rs h h133 h114 i116 k113 I112)))))))))))) ∧
 (¬ (i116 : Int) < ((n : Nat) : Int) → E h114))) := by
 have hn := T.1
 have hroom := ok.room
 have hlen := ok.len
 simp only [reachBytes] at hroom
 refine ⟨_, _, _, ld1_at cb rfl, fun i k g => ∃ w : Nat, i = w ∧ w ≤ s.dn ∧ s.dn - w = k ∧ Old H g ∧ ∀ (j : Nat) q, j < w → s.dead[j]? = some q → q.2.1 ≤ flrD rs s.id, ⟨_, 0, rfl, Nat.zero_le _, rfl, Old.refl _, fun j q hj => absurd hj (Nat.not_lt_zero _)⟩, ?_⟩
 rintro k95 g96 i98 ⟨w, rfl, hw, rfl, o96, hb⟩
 refine ⟨fun z => ?_, fun z => ?_⟩
 ·have hwd : w < s.dead.length := by omega
  obtain ⟨b, off, hp, hld, -⟩ := (ok.shows.old o96).getN (i := w) (by omega)
  rw [ptI_get s.dead w hwd] at hld
  have hgw := List.getElem?_eq_getElem hwd
  rw [hp]
  refine derefP_at ⟨by omega, z, _, _, _, by rw [Int.toNat_natCast]; exact hld, fun g104 e104 => ?_⟩
  obtain ⟨g105, k105, n105, o105, v105⟩ := put_new e104 (vs := [.int .i64 s.dead[w].1, .int .u64 s.dead[w].2.1, .int .u32 s.dead[w].2.2]) rfl
  have w105 := v105 [] (fun c hc => by cases hc)
  have o5 := o96.trans o105
  refine ⟨rfl, g105, k105, _, ld1_at ((o5.2 _ lt).trans cb) rfl, (floorD16 kk (T.old o5) s.id).mono ?_⟩
  rintro _ g108 ⟨rfl, o108⟩
  have w108 := w105.old o108
  refine ⟨_, rfl, _, ld1_at w108.1 rfl, fun y => ⟨ld1_at w105.1 rfl, ld1_at w108.1 rfl, hno _ (o5.trans o108) fun G => ?_⟩, fun y => ⟨ld1_at w105.1 rfl, ld1_at w108.1 rfl, fun i111 e111 => ?_⟩⟩
  ·have := G.dead _ (List.getElem_mem hwd)
   omega
  ·have e111 := i64w e111 (by omega) (by omega)
   refine ⟨s.dn - (w + 1), by omega, w + 1, by omega, by omega, rfl, o5.trans o108, fun j q hj hq => ?_⟩
   rcases Nat.lt_succ_iff_lt_or_eq.1 hj with hj | rfl
   ·exact hb j q hj hq
   ·rw [hgw] at hq
    cases hq
    omega
 ·have hdead : ∀ q ∈ s.dead, q.2.1 ≤ flrD rs s.id := fun q hq => by
   obtain ⟨j, hj⟩ := List.mem_iff_getElem?.1 hq
   exact hb j q (by have := (List.getElem?_eq_some_iff.1 hj).1; omega) hj
  refine ⟨fun i k g => ∃ w : Nat, i = w ∧ w ≤ n ∧ n - w = k ∧ Old H g ∧ ∀ (j : Nat) t, j < w → rs[j]? = some t → j ≠ u → ¬ (t.snap = s.snap ∧ t.name = s.name ∧ (s.snap = false ∨ t.own = s.own)), ⟨_, 0, rfl, Nat.zero_le _, rfl, o96, fun j q hj => absurd hj (Nat.not_lt_zero _)⟩, ?_⟩
  rintro k113 g114 i116 ⟨v, rfl, hv, rfl, o114, hb2⟩
  refine ⟨fun y => ?_, fun y => hE _ o114 hdead fun k t hk hne => hb2 k t (by have := (List.getElem?_eq_some_iff.1 hk).1; omega) hk hne⟩
  obtain ⟨b, off, rfl, hi', hl, h1, -⟩ := (T.old o114).at (i := v) (by omega)
  have hrv := List.getElem?_eq_getElem hi'
  generalize rs[v] = t at hl h1 hrv
  refine derefP_at ⟨by omega, y, _, _, _, _, _, _, _, _, _, _, _, _, _, by rw [Int.toNat_natCast]; exact hl, fun g132 e132 => ?_⟩
  obtain ⟨g133, k133, n133, o133, v133⟩ := put_new e132 (vs := setC t) rfl
  have w133 := v133 [] (fun c hc => by cases hc)
  have o3 := o114.trans o133
  have cs := (o3.2 _ lt).trans cb
  have step : (v = u ∨ ¬ (t.snap = s.snap ∧ t.name = s.name ∧ (s.snap = false ∨ t.own = s.own))) → ∀ i134 : Int, i134 = IntKind.wrap .i64 ((v : Int) + 1) → ∃ j115, j115 < n - v ∧ ∃ w : Nat, i134 = w ∧ w ≤ n ∧ n - w = j115 ∧ Old H g133 ∧ ∀ (j : Nat) t, j < w → rs[j]? = some t → j ≠ u → ¬ (t.snap = s.snap ∧ t.name = s.name ∧ (s.snap = false ∨ t.own = s.own)) := fun q i134 e134 => by
   have e134 := i64w e134 (by omega) (by omega)
   refine ⟨n - (v + 1), by omega, v + 1, by omega, by omega, rfl, o3, fun j x hj hx hne => ?_⟩
   rcases Nat.lt_succ_iff_lt_or_eq.1 hj with hj | rfl
   ·exact hb2 j x hj hx hne
   ·rw [hrv] at hx
    cases hx
    rcases q with q | q
    ·exact absurd q hne
    ·exact q
  have no : v ≠ u → (t.snap = s.snap ∧ t.name = s.name ∧ (s.snap = false ∨ t.own = s.own)) → BoolIs (.bool false) (RightP nx rs) ∧ Old h g133 := fun hne q => hno _ o3 fun G => G.name v t hrv hne q
  refine ⟨rfl, g133, k133, fun e => step (.inl (by omega)), fun e => ?_⟩
  have hne : v ≠ u := by omega
  rcases Bool.eq_false_or_eq_true t.snap with ht | ht
  ·refine .inl ⟨ld1_at w133.1 (by simp [setC, ht]), ?_⟩
   rcases Bool.eq_false_or_eq_true s.snap with hs | hs
   ·refine .inl ⟨ld1_at cs (by simp [setC, hs]), _, ld1_at w133.1 rfl, _, ld1_at cs rfl, fun e1 => .inl ⟨ld1_at cs (by simp [setC, hs]), _, ld1_at w133.1 rfl, _, ld1_at cs rfl, fun e2 => no hne ⟨by rw [ht, hs], e1, .inr e2⟩, fun e2 => step (.inr fun q => q.2.2.elim (fun z => by rw [hs] at z; cases z) e2)⟩, fun e1 => step (.inr fun q => e1 q.2.1)⟩
   ·exact .inr ⟨ld1_at cs (by simp [setC, hs]), step (.inr fun q => by rw [ht, hs] at q; cases q.1)⟩
  ·refine .inr ⟨ld1_at w133.1 (by simp [setC, ht]), ?_⟩
   rcases Bool.eq_false_or_eq_true s.snap with hs | hs
   ·exact .inl ⟨ld1_at cs (by simp [setC, hs]), step (.inr fun q => by rw [ht, hs] at q; cases q.1)⟩
   ·exact .inr ⟨ld1_at cs (by simp [setC, hs]), _, ld1_at w133.1 rfl, _, ld1_at cs rfl, fun e1 => .inr ⟨ld1_at cs (by simp [setC, hs]), no hne ⟨by rw [ht, hs], e1, .inl hs⟩⟩, fun e1 => step (.inr fun q => e1 q.2.1)⟩
abbrev right2_t2 (K : Xs) (sb : Nat) (nx : Int) (rs : List SetR) (h : AH) (h133 : AH) (h114 : AH) (i116 : Int) (k113 : Nat) (I112 : Int → Nat → AH → Prop) : Prop :=
 (∃ s135 : ByteArray, ld1 h133 h114.next 1 = some (.string s135) ∧
   (∃ s136 : ByteArray, ld1 h133 sb 1 = some (.string s136) ∧
   ((s135 = s136 → ((ld1 h133 sb 2 = some (.bool true) ∧
   (∃ i137 : Int, ld1 h133 h114.next 3 = some (.int .u64 i137) ∧
   (∃ i138 : Int, ld1 h133 sb 3 = some (.int .u64 i138) ∧
   (((i137 : Int) = i138 → (BoolIs (.bool false) (RightP nx rs) ∧ Old h h133)) ∧
   (¬ (i137 : Int) = i138 → ∀ i139 : Int, i139 = IntKind.wrap .i64 (i116 + 1) → ∃ j115, j115 < k113 ∧ I112 i139 j115 h133))))) ∨ (ld1 h133 sb 2 = some (.bool false) ∧
   ((BoolIs (.bool false) (RightP nx rs) ∧ Old h h133))))) ∧
   (¬ s135 = s136 → ∀ i140 : Int, i140 = IntKind.wrap .i64 (i116 + 1) → ∃ j115, j115 < k113 ∧ I112 i140 j115 h133))))
abbrev right2_t1 (K : Xs) (sb : Nat) (E : AH → Prop) (nx : Int) (rs : List SetR) (p : Option Addr) (n : Nat) (c : Nat) (h : AH) (h84 : AH) (n92 : Nat) (p91 : Option Addr) (i4 : Int) : Prop :=
 (∃ I94 : Int → Nat → AH → Prop, (∃ n, I94 0 n h84) ∧
   ∀ (k95 : Nat) (h96 : AH) (i98 : Int), I94 i98 k95 h96 →
   ((i98 : Int) < ((n92 : Nat) : Int) → derefP p91 fun b99 o100 => (((0 : Int) ≤ i98) ∧ ((i98 : Int) < ((n92 : Nat) : Int)) ∧
   (∃ i101 : Int, ∃ i102 : Int, ∃ i103 : Int, ldN h96 b99 (o100 + Int.toNat i98 * 3) 3 = some ([(.int .i64 i101), (.int .u64 i102), (.int .u32 i103)] : List Value) ∧
   (∀ h104 : AH, h104 = h96.alloc (.cells ([(.int .i64 0), (.int .u64 0), (.int .u32 0)] : List Value) 25 false) →
   (List.length ([(.int .i64 i101), (.int .u64 i102), (.int .u32 i103)] : List Value) = 3) ∧ ∃ h105 : AH, stN h104 h96.next 0 ([(.int .i64 i101), (.int .u64 i102), (.int .u32 i103)] : List Value) = some h105 ∧
   (∃ i106 : Int, ld1 h105 sb 0 = some (.int .u64 i106) ∧
   (Wf Try.prog K 33 [(.slice p n c), (.int .u64 i106)] h105 fun r107 h108 =>
   (∃ i109 : Int, r107 = (.int .u64 i109) ∧
   (∃ i110 : Int, ld1 h108 h96.next 1 = some (.int .u64 i110) ∧
   (((i109 : Int) < i110 → (ld1 h105 h96.next 1 = some (.int .u64 i110)) ∧
   ((ld1 h108 h96.next 1 = some (.int .u64 i110)) ∧
   ((BoolIs (.bool false) (RightP nx rs) ∧ Old h h108)))) ∧
   (¬ (i109 : Int) < i110 → (ld1 h105 h96.next 1 = some (.int .u64 i110)) ∧
   ((ld1 h108 h96.next 1 = some (.int .u64 i110)) ∧
   (∀ i111 : Int, i111 = IntKind.wrap .i64 (i98 + 1) → ∃ j97, j97 < k95 ∧ I94 i111 j97 h108)))))))))))) ∧
   (¬ (i98 : Int) < ((n92 : Nat) : Int) → ∃ I112 : Int → Nat → AH → Prop, (∃ n, I112 0 n h96) ∧
   ∀ (k113 : Nat) (h114 : AH) (i116 : Int), I112 i116 k113 h114 →
   ((i116 : Int) < ((n : Nat) : Int) → derefP p fun b117 o118 => (((0 : Int) ≤ i116) ∧ ((i116 : Int) < ((n : Nat) : Int)) ∧
   (∃ i119 : Int, ∃ s120 : ByteArray, ∃ b121 : Bool, ∃ i122 : Int, ∃ i123 : Int, ∃ i124 : Int, ∃ i125 : Int, ∃ i126 : Int, ∃ i127 : Int, ∃ i128 : Int, ∃ (p129 : Option Addr) (n130 c131 : Nat), ldN h114 b117 (o118 + Int.toNat i116 * 11) 11 = some ([(.int .u64 i119), (.string s120), (.bool b121), (.int .u64 i122), (.int .u64 i123), (.int .u64 i124), (.int .i64 i125), (.int .i64 i126), (.int .u64 i127), (.int .u32 i128), (.slice p129 n130 c131)] : List Value) ∧
   (∀ h132 : AH, h132 = h114.alloc (.cells ([(.int .u64 0), (.string (ByteArray.mk #[])), (.bool false), (.int .u64 0), (.int .u64 0), (.int .u64 0), (.int .i64 0), (.int .i64 0), (.int .u64 0), (.int .u32 0), (.slice none 0 0)] : List Value) 28 false) →
   (List.length ([(.int .u64 i119), (.string s120), (.bool b121), (.int .u64 i122), (.int .u64 i123), (.int .u64 i124), (.int .i64 i125), (.int .i64 i126), (.int .u64 i127), (.int .u32 i128), (.slice p129 n130 c131)] : List Value) = 11) ∧ ∃ h133 : AH, stN h132 h114.next 0 ([(.int .u64 i119), (.string s120), (.bool b121), (.int .u64 i122), (.int .u64 i123), (.int .u64 i124), (.int .i64 i125), (.int .i64 i126), (.int .u64 i127), (.int .u32 i128), (.slice p129 n130 c131)] : List Value) = some h133 ∧
   (((i116 : Int) = i4 → ∀ i134 : Int, i134 = IntKind.wrap .i64 (i116 + 1) → ∃ j115, j115 < k113 ∧ I112 i134 j115 h133) ∧
   (¬ (i116 : Int) = i4 → ((ld1 h133 h114.next 2 = some (.bool true) ∧
   (((ld1 h133 sb 2 = some (.bool true) ∧
   (right2_t2 K sb nx rs h h133 h114 i116 k113 I112)) ∨ (ld1 h133 sb 2 = some (.bool false) ∧
   (∀ i141 : Int, i141 = IntKind.wrap .i64 (i116 + 1) → ∃ j115, j115 < k113 ∧ I112 i141 j115 h133))))) ∨ (ld1 h133 h114.next 2 = some (.bool false) ∧
   (((ld1 h133 sb 2 = some (.bool true) ∧
   (∀ i142 : Int, i142 = IntKind.wrap .i64 (i116 + 1) → ∃ j115, j115 < k113 ∧ I112 i142 j115 h133)) ∨ (ld1 h133 sb 2 = some (.bool false) ∧
   (right2_t2 K sb nx rs h h133 h114 i116 k113 I112)))))))))))) ∧
   (¬ (i116 : Int) < ((n : Nat) : Int) → E h114)))
theorem right2 (kk : KRef16 K) {H : AH} {sb : Nat} {s : SetR} {u : Nat} {i4 : Int} {E : AH → Prop} (T : Sets H p n rs) (hn32 : n ≤ 32) (hu : rs[u]? = some s) (hi4 : i4 = (u : Int)) (ok : SetOk H s) (cb : H.get sb = some (.cells (setC s) 28 false)) (lt : sb < H.next)
 (hno : ∀ g, Old H g → ¬ Good16 nx rs u s → (BoolIs (.bool false) (RightP nx rs) ∧ Old h g)) (hE : ∀ g, Old H g → (s.snap = true → (ownL rs s.id).length = 1) → (∀ q ∈ s.dead, q.2.1 ≤ flrD rs s.id) → NameG rs u s → E g) :
 ∃ i82 : Int, ld1 H sb 0 = some (.int .u64 i82) ∧
 (Wf Try.prog K 29 [(.slice p n c), (.int .u64 i82)] H fun r83 h84 =>
 (∃ (p85 : Option Addr) (n86 c87 : Nat), ∃ (p88 : Option Addr) (n89 c90 : Nat), r83 = (.tuple #[(.slice p85 n86 c87), (.slice p88 n89 c90)]) ∧
 (((ld1 h84 sb 2 = some (.bool true) ∧
 (((((n86 : Nat) : Int) : Int) = 1 → ∃ (p91 : Option Addr) (n92 c93 : Nat), ld1 h84 sb 10 = some (.slice p91 n92 c93) ∧
 (right2_t1 K sb E nx rs p n c h h84 n92 p91 i4)) ∧
 (¬ (((n86 : Nat) : Int) : Int) = 1 → (BoolIs (.bool false) (RightP nx rs) ∧ Old h h84)))) ∨ (ld1 h84 sb 2 = some (.bool false) ∧
 (∃ (p150 : Option Addr) (n151 c152 : Nat), ld1 h84 sb 10 = some (.slice p150 n151 c152) ∧
 (right2_t1 K sb E nx rs p n c h h84 n151 p150 i4))))))) := by
 refine ⟨_, ld1_at cb rfl, (kids16 kk T (by omega) s.id).mono ?_⟩
 rintro _ g84 ⟨p1, n1, c1, p2, n2, c2, rfl, S1, S2, o84⟩
 have hl := S1.1
 rw [u64I_len] at hl
 have cs := (o84.2 _ lt).trans cb
 have tail := fun (q : s.snap = true → (ownL rs s.id).length = 1) => right3 (h := h) (c := c) (nx := nx) kk (E := E) (T.old o84) hn32 hu hi4 (ok.old o84) cs (Nat.lt_of_lt_of_le lt o84.1) (fun g o => hno g (o84.trans o)) fun g o => hE g (o84.trans o) q
 refine ⟨_, _, _, _, _, _, rfl, ?_⟩
 cases hs : s.snap with
 | true => exact .inl ⟨ld1_at cs (by simp [setC, hs]), fun e => tail fun _ => by omega, fun e => hno _ o84 fun G => e (by have := G.own hs; omega)⟩
 | false => exact .inr ⟨ld1_at cs (by simp [setC, hs]), tail fun z => by rw [hs] at z; cases z⟩
abbrev right1_t4 (K : Xs) (sb : Nat) (nx : Int) (rs : List SetR) (h : AH) (h133 : AH) (h114 : AH) (i116 : Int) (k113 : Nat) (I112 : Int → Nat → AH → Prop) : Prop :=
 (∃ s135 : ByteArray, ld1 h133 h114.next 1 = some (.string s135) ∧
   (∃ s136 : ByteArray, ld1 h133 sb 1 = some (.string s136) ∧
   ((s135 = s136 → ((ld1 h133 sb 2 = some (.bool true) ∧
   (∃ i137 : Int, ld1 h133 h114.next 3 = some (.int .u64 i137) ∧
   (∃ i138 : Int, ld1 h133 sb 3 = some (.int .u64 i138) ∧
   (((i137 : Int) = i138 → (BoolIs (.bool false) (RightP nx rs) ∧ Old h h133)) ∧
   (¬ (i137 : Int) = i138 → ∀ i139 : Int, i139 = IntKind.wrap .i64 (i116 + 1) → ∃ j115, j115 < k113 ∧ I112 i139 j115 h133))))) ∨ (ld1 h133 sb 2 = some (.bool false) ∧
   ((BoolIs (.bool false) (RightP nx rs) ∧ Old h h133))))) ∧
   (¬ s135 = s136 → ∀ i140 : Int, i140 = IntKind.wrap .i64 (i116 + 1) → ∃ j115, j115 < k113 ∧ I112 i140 j115 h133))))
abbrev right1_t1 (K : Xs) (sb : Nat) (E : AH → Prop) (nx : Int) (rs : List SetR) (p : Option Addr) (n : Nat) (c : Nat) (h : AH) (h84 : AH) (n92 : Nat) (p91 : Option Addr) (i4 : Int) : Prop :=
 (∃ I94 : Int → Nat → AH → Prop, (∃ n, I94 0 n h84) ∧
   ∀ (k95 : Nat) (h96 : AH) (i98 : Int), I94 i98 k95 h96 →
   ((i98 : Int) < ((n92 : Nat) : Int) → derefP p91 fun b99 o100 => (((0 : Int) ≤ i98) ∧ ((i98 : Int) < ((n92 : Nat) : Int)) ∧
   (∃ i101 : Int, ∃ i102 : Int, ∃ i103 : Int, ldN h96 b99 (o100 + Int.toNat i98 * 3) 3 = some ([(.int .i64 i101), (.int .u64 i102), (.int .u32 i103)] : List Value) ∧
   (∀ h104 : AH, h104 = h96.alloc (.cells ([(.int .i64 0), (.int .u64 0), (.int .u32 0)] : List Value) 25 false) →
   (List.length ([(.int .i64 i101), (.int .u64 i102), (.int .u32 i103)] : List Value) = 3) ∧ ∃ h105 : AH, stN h104 h96.next 0 ([(.int .i64 i101), (.int .u64 i102), (.int .u32 i103)] : List Value) = some h105 ∧
   (∃ i106 : Int, ld1 h105 sb 0 = some (.int .u64 i106) ∧
   (Wf Try.prog K 33 [(.slice p n c), (.int .u64 i106)] h105 fun r107 h108 =>
   (∃ i109 : Int, r107 = (.int .u64 i109) ∧
   (∃ i110 : Int, ld1 h108 h96.next 1 = some (.int .u64 i110) ∧
   (((i109 : Int) < i110 → (ld1 h105 h96.next 1 = some (.int .u64 i110)) ∧
   ((ld1 h108 h96.next 1 = some (.int .u64 i110)) ∧
   ((BoolIs (.bool false) (RightP nx rs) ∧ Old h h108)))) ∧
   (¬ (i109 : Int) < i110 → (ld1 h105 h96.next 1 = some (.int .u64 i110)) ∧
   ((ld1 h108 h96.next 1 = some (.int .u64 i110)) ∧
   (∀ i111 : Int, i111 = IntKind.wrap .i64 (i98 + 1) → ∃ j97, j97 < k95 ∧ I94 i111 j97 h108)))))))))))) ∧
   (¬ (i98 : Int) < ((n92 : Nat) : Int) → ∃ I112 : Int → Nat → AH → Prop, (∃ n, I112 0 n h96) ∧
   ∀ (k113 : Nat) (h114 : AH) (i116 : Int), I112 i116 k113 h114 →
   ((i116 : Int) < ((n : Nat) : Int) → derefP p fun b117 o118 => (((0 : Int) ≤ i116) ∧ ((i116 : Int) < ((n : Nat) : Int)) ∧
   (∃ i119 : Int, ∃ s120 : ByteArray, ∃ b121 : Bool, ∃ i122 : Int, ∃ i123 : Int, ∃ i124 : Int, ∃ i125 : Int, ∃ i126 : Int, ∃ i127 : Int, ∃ i128 : Int, ∃ (p129 : Option Addr) (n130 c131 : Nat), ldN h114 b117 (o118 + Int.toNat i116 * 11) 11 = some ([(.int .u64 i119), (.string s120), (.bool b121), (.int .u64 i122), (.int .u64 i123), (.int .u64 i124), (.int .i64 i125), (.int .i64 i126), (.int .u64 i127), (.int .u32 i128), (.slice p129 n130 c131)] : List Value) ∧
   (∀ h132 : AH, h132 = h114.alloc (.cells ([(.int .u64 0), (.string (ByteArray.mk #[])), (.bool false), (.int .u64 0), (.int .u64 0), (.int .u64 0), (.int .i64 0), (.int .i64 0), (.int .u64 0), (.int .u32 0), (.slice none 0 0)] : List Value) 28 false) →
   (List.length ([(.int .u64 i119), (.string s120), (.bool b121), (.int .u64 i122), (.int .u64 i123), (.int .u64 i124), (.int .i64 i125), (.int .i64 i126), (.int .u64 i127), (.int .u32 i128), (.slice p129 n130 c131)] : List Value) = 11) ∧ ∃ h133 : AH, stN h132 h114.next 0 ([(.int .u64 i119), (.string s120), (.bool b121), (.int .u64 i122), (.int .u64 i123), (.int .u64 i124), (.int .i64 i125), (.int .i64 i126), (.int .u64 i127), (.int .u32 i128), (.slice p129 n130 c131)] : List Value) = some h133 ∧
   (((i116 : Int) = i4 → ∀ i134 : Int, i134 = IntKind.wrap .i64 (i116 + 1) → ∃ j115, j115 < k113 ∧ I112 i134 j115 h133) ∧
   (¬ (i116 : Int) = i4 → ((ld1 h133 h114.next 2 = some (.bool true) ∧
   (((ld1 h133 sb 2 = some (.bool true) ∧
   (right1_t4 K sb nx rs h h133 h114 i116 k113 I112)) ∨ (ld1 h133 sb 2 = some (.bool false) ∧
   (∀ i141 : Int, i141 = IntKind.wrap .i64 (i116 + 1) → ∃ j115, j115 < k113 ∧ I112 i141 j115 h133))))) ∨ (ld1 h133 h114.next 2 = some (.bool false) ∧
   (((ld1 h133 sb 2 = some (.bool true) ∧
   (∀ i142 : Int, i142 = IntKind.wrap .i64 (i116 + 1) → ∃ j115, j115 < k113 ∧ I112 i142 j115 h133)) ∨ (ld1 h133 sb 2 = some (.bool false) ∧
   (right1_t4 K sb nx rs h h133 h114 i116 k113 I112)))))))))))) ∧
   (¬ (i116 : Int) < ((n : Nat) : Int) → E h114)))
abbrev right1_t2 (K : Xs) (sb : Nat) (nx : Int) (rs : List SetR) (p : Option Addr) (n : Nat) (c : Nat) (h : AH) (E : AH → Prop) (i82 : Int) (h78 : AH) (i4 : Int) : Prop :=
 (Wf Try.prog K 29 [(.slice p n c), (.int .u64 i82)] h78 fun r83 h84 =>
   (∃ (p85 : Option Addr) (n86 c87 : Nat), ∃ (p88 : Option Addr) (n89 c90 : Nat), r83 = (.tuple #[(.slice p85 n86 c87), (.slice p88 n89 c90)]) ∧
   (((ld1 h84 sb 2 = some (.bool true) ∧
   (((((n86 : Nat) : Int) : Int) = 1 → ∃ (p91 : Option Addr) (n92 c93 : Nat), ld1 h84 sb 10 = some (.slice p91 n92 c93) ∧
   (right1_t1 K sb E nx rs p n c h h84 n92 p91 i4)) ∧
   (¬ (((n86 : Nat) : Int) : Int) = 1 → (BoolIs (.bool false) (RightP nx rs) ∧ Old h h84)))) ∨ (ld1 h84 sb 2 = some (.bool false) ∧
   (∃ (p150 : Option Addr) (n151 c152 : Nat), ld1 h84 sb 10 = some (.slice p150 n151 c152) ∧
   (right1_t1 K sb E nx rs p n c h h84 n151 p150 i4)))))))
abbrev right1_t3 (K : Xs) (sb : Nat) (nx : Int) (rs : List SetR) (h : AH) (p : Option Addr) (n : Nat) (c : Nat) (E : AH → Prop) (h78 : AH) (h63 : AH) (i4 : Int) : Prop :=
 ((ld1 h78 sb 2 = some (.bool true) ∧
   (∃ i80 : Int, ld1 h78 h63.next 5 = some (.int .u64 i80) ∧
   (∃ i81 : Int, ld1 h78 sb 5 = some (.int .u64 i81) ∧
   (((i81 : Int) ≤ i80 → (BoolIs (.bool false) (RightP nx rs) ∧ Old h h78)) ∧
   (¬ (i81 : Int) ≤ i80 → ∃ i82 : Int, ld1 h78 sb 0 = some (.int .u64 i82) ∧
   (right1_t2 K sb nx rs p n c h E i82 h78 i4)))))) ∨ (ld1 h78 sb 2 = some (.bool false) ∧
   (∃ i209 : Int, ld1 h78 sb 0 = some (.int .u64 i209) ∧
   (right1_t2 K sb nx rs p n c h E i209 h78 i4))))
theorem right1 (kk : KRef16 K) {H : AH} {sb : Nat} {s : SetR} {u : Nat} {i4 : Int} {E : AH → Prop} (T : Sets H p n rs) (hn32 : n ≤ 32) (hu : rs[u]? = some s) (hi4 : i4 = (u : Int)) (ok : SetOk H s) (cb : H.get sb = some (.cells (setC s) 28 false)) (lt : sb < H.next)
 (hno : ∀ g, Old H g → ¬ Good16 nx rs u s → (BoolIs (.bool false) (RightP nx rs) ∧ Old h g)) (hE : ∀ g, Old H g → (∃ j v, plcN rs s.own = some j ∧ rs[j]? = some v ∧ v.snap = false) → PrevG rs s → (s.snap = true → (ownL rs s.id).length = 1) → (∀ q ∈ s.dead, q.2.1 ≤ flrD rs s.id) → NameG rs u s → E g) :
 ∃ i43 : Int, ld1 H sb 3 = some (.int .u64 i43) ∧
 (Wf Try.prog K 25 [(.slice p n c), (.int .u64 i43)] H fun r44 h45 =>
 (∃ i46 : Int, ∃ s47 : ByteArray, ∃ b48 : Bool, ∃ i49 : Int, ∃ i50 : Int, ∃ i51 : Int, ∃ i52 : Int, ∃ i53 : Int, ∃ i54 : Int, ∃ i55 : Int, ∃ (p56 : Option Addr) (n57 c58 : Nat), ((r44 = (.tuple #[(.agg #[(.int .u64 i46), (.string s47), (.bool b48), (.int .u64 i49), (.int .u64 i50), (.int .u64 i51), (.int .i64 i52), (.int .i64 i53), (.int .u64 i54), (.int .u32 i55), (.slice p56 n57 c58)]), (.bool true)]) ∧
 (∀ h59 : AH, h59 = h45.alloc (.cells ([(.int .u64 0), (.string (ByteArray.mk #[])), (.bool false), (.int .u64 0), (.int .u64 0), (.int .u64 0), (.int .i64 0), (.int .i64 0), (.int .u64 0), (.int .u32 0), (.slice none 0 0)] : List Value) 28 false) →
 (List.length ([(.int .u64 i46), (.string s47), (.bool b48), (.int .u64 i49), (.int .u64 i50), (.int .u64 i51), (.int .i64 i52), (.int .i64 i53), (.int .u64 i54), (.int .u32 i55), (.slice p56 n57 c58)] : List Value) = 11) ∧ ∃ h60 : AH, stN h59 h45.next 0 ([(.int .u64 i46), (.string s47), (.bool b48), (.int .u64 i49), (.int .u64 i50), (.int .u64 i51), (.int .i64 i52), (.int .i64 i53), (.int .u64 i54), (.int .u32 i55), (.slice p56 n57 c58)] : List Value) = some h60 ∧
 (((ld1 h60 h45.next 2 = some (.bool true) ∧
 ((BoolIs (.bool false) (RightP nx rs) ∧ Old h h60))) ∨ (ld1 h60 h45.next 2 = some (.bool false) ∧
 (∃ i61 : Int, ld1 h60 sb 4 = some (.int .u64 i61) ∧
 (Wf Try.prog K 25 [(.slice p n c), (.int .u64 i61)] h60 fun r62 h63 =>
 (∃ i64 : Int, ∃ s65 : ByteArray, ∃ b66 : Bool, ∃ i67 : Int, ∃ i68 : Int, ∃ i69 : Int, ∃ i70 : Int, ∃ i71 : Int, ∃ i72 : Int, ∃ i73 : Int, ∃ (p74 : Option Addr) (n75 c76 : Nat), ((r62 = (.tuple #[(.agg #[(.int .u64 i64), (.string s65), (.bool b66), (.int .u64 i67), (.int .u64 i68), (.int .u64 i69), (.int .i64 i70), (.int .i64 i71), (.int .u64 i72), (.int .u32 i73), (.slice p74 n75 c76)]), (.bool true)]) ∧
 (∀ h77 : AH, h77 = h63.alloc (.cells ([(.int .u64 0), (.string (ByteArray.mk #[])), (.bool false), (.int .u64 0), (.int .u64 0), (.int .u64 0), (.int .i64 0), (.int .i64 0), (.int .u64 0), (.int .u32 0), (.slice none 0 0)] : List Value) 28 false) →
 (List.length ([(.int .u64 i64), (.string s65), (.bool b66), (.int .u64 i67), (.int .u64 i68), (.int .u64 i69), (.int .i64 i70), (.int .i64 i71), (.int .u64 i72), (.int .u32 i73), (.slice p74 n75 c76)] : List Value) = 11) ∧ ∃ h78 : AH, stN h77 h63.next 0 ([(.int .u64 i64), (.string s65), (.bool b66), (.int .u64 i67), (.int .u64 i68), (.int .u64 i69), (.int .i64 i70), (.int .i64 i71), (.int .u64 i72), (.int .u32 i73), (.slice p74 n75 c76)] : List Value) = some h78 ∧
 (∃ i79 : Int, ld1 h78 sb 4 = some (.int .u64 i79) ∧
 (((i79 : Int) = 0 → (right1_t3 K sb nx rs h p n c E h78 h63 i4)) ∧
 (¬ (i79 : Int) = 0 → ((ld1 h78 h63.next 2 = some (.bool true) ∧
 ((right1_t3 K sb nx rs h p n c E h78 h63 i4))) ∨ (ld1 h78 h63.next 2 = some (.bool false) ∧
 ((BoolIs (.bool false) (RightP nx rs) ∧ Old h h78))))))))) ∨ (r62 = (.tuple #[(.agg #[(.int .u64 i64), (.string s65), (.bool b66), (.int .u64 i67), (.int .u64 i68), (.int .u64 i69), (.int .i64 i70), (.int .i64 i71), (.int .u64 i72), (.int .u32 i73), (.slice p74 n75 c76)]), (.bool false)]) ∧
 (∀ h592 : AH, h592 = h63.alloc (.cells ([(.int .u64 0), (.string (ByteArray.mk #[])), (.bool false), (.int .u64 0), (.int .u64 0), (.int .u64 0), (.int .i64 0), (.int .i64 0), (.int .u64 0), (.int .u32 0), (.slice none 0 0)] : List Value) 28 false) →
 (List.length ([(.int .u64 i64), (.string s65), (.bool b66), (.int .u64 i67), (.int .u64 i68), (.int .u64 i69), (.int .i64 i70), (.int .i64 i71), (.int .u64 i72), (.int .u32 i73), (.slice p74 n75 c76)] : List Value) = 11) ∧ ∃ h593 : AH, stN h592 h63.next 0 ([(.int .u64 i64), (.string s65), (.bool b66), (.int .u64 i67), (.int .u64 i68), (.int .u64 i69), (.int .i64 i70), (.int .i64 i71), (.int .u64 i72), (.int .u32 i73), (.slice p74 n75 c76)] : List Value) = some h593 ∧
 (∃ i594 : Int, ld1 h593 sb 4 = some (.int .u64 i594) ∧
 (((i594 : Int) = 0 → ∃ i595 : Int, ld1 h593 sb 0 = some (.int .u64 i595) ∧
 (right1_t2 K sb nx rs p n c h E i595 h593 i4)) ∧
 (¬ (i594 : Int) = 0 → (BoolIs (.bool false) (RightP nx rs) ∧ Old h h593))))))))))))))) ∨ (r44 = (.tuple #[(.agg #[(.int .u64 i46), (.string s47), (.bool b48), (.int .u64 i49), (.int .u64 i50), (.int .u64 i51), (.int .i64 i52), (.int .i64 i53), (.int .u64 i54), (.int .u32 i55), (.slice p56 n57 c58)]), (.bool false)]) ∧
 (∀ h722 : AH, h722 = h45.alloc (.cells ([(.int .u64 0), (.string (ByteArray.mk #[])), (.bool false), (.int .u64 0), (.int .u64 0), (.int .u64 0), (.int .i64 0), (.int .i64 0), (.int .u64 0), (.int .u32 0), (.slice none 0 0)] : List Value) 28 false) →
 (List.length ([(.int .u64 i46), (.string s47), (.bool b48), (.int .u64 i49), (.int .u64 i50), (.int .u64 i51), (.int .i64 i52), (.int .i64 i53), (.int .u64 i54), (.int .u32 i55), (.slice p56 n57 c58)] : List Value) = 11) ∧ ∃ h723 : AH, stN h722 h45.next 0 ([(.int .u64 i46), (.string s47), (.bool b48), (.int .u64 i49), (.int .u64 i50), (.int .u64 i51), (.int .i64 i52), (.int .i64 i53), (.int .u64 i54), (.int .u32 i55), (.slice p56 n57 c58)] : List Value) = some h723 ∧
 ((BoolIs (.bool false) (RightP nx rs) ∧ Old h h723))))))) := by
 refine ⟨_, ld1_at cb rfl, (find16 kk T s.own).mono ?_⟩
 rintro _ g45 ⟨⟨j, v, q1, q2, rfl⟩ | ⟨q1, rfl⟩, o45⟩
 rotate_left
 ·refine ⟨_, _, _, _, _, _, _, _, _, _, _, _, _, .inr ⟨rfl, fun g59 e59 => ?_⟩⟩
  obtain ⟨g60, k60, n60, o60, v60⟩ := put_new e59 (vs := setC zeroR) rfl
  exact ⟨rfl, g60, k60, hno _ (o45.trans o60) fun G => by obtain ⟨j, v, z, -⟩ := G.vol; rw [q1] at z; cases z⟩
 refine ⟨_, _, _, _, _, _, _, _, _, _, _, _, _, .inl ⟨rfl, fun g59 e59 => ?_⟩⟩
 obtain ⟨g60, k60, n60, o60, v60⟩ := put_new e59 (vs := setC v) rfl
 have w60 := v60 [] (fun c hc => by cases hc)
 have o4 := o45.trans o60
 refine ⟨rfl, g60, k60, ?_⟩
 cases hv : v.snap with
 | true => exact .inl ⟨ld1_at w60.1 (by simp [setC, hv]), hno _ o4 fun G => by obtain ⟨j', v', z1, z2, z3⟩ := G.vol; rw [q1] at z1; cases z1; rw [q2] at z2; cases z2; rw [hv] at z3; cases z3⟩
 | false =>
   have cs := (o4.2 _ lt).trans cb
   refine .inr ⟨ld1_at w60.1 (by simp [setC, hv]), _, ld1_at cs rfl, (find16 kk (T.old o4) s.prev).mono ?_⟩
   rintro _ g63 ⟨⟨j', x, f1, f2, rfl⟩ | ⟨f1, rfl⟩, o63⟩
   ·refine ⟨_, _, _, _, _, _, _, _, _, _, _, _, _, .inl ⟨rfl, fun g77 e77 => ?_⟩⟩
    obtain ⟨g78, k78, n78, o78, v78⟩ := put_new e77 (vs := setC x) rfl
    have w78 := v78 [] (fun c hc => by cases hc)
    have o5 := o4.trans (o63.trans o78)
    have cs8 := (o5.2 _ lt).trans cb
    have tail := fun (q : PrevG rs s) => right2 (h := h) (c := c) (nx := nx) kk (E := E) (T.old o5) hn32 hu hi4 (ok.old o5) cs8 (Nat.lt_of_lt_of_le lt o5.1) (fun g o => hno g (o5.trans o)) fun g o => hE g (o5.trans o) ⟨j, v, q1, q2, hv⟩ q
    have no : ¬ ((s.prev ≠ 0 → x.snap = true) ∧ (s.snap = true → x.stamp < s.stamp)) → BoolIs (.bool false) (RightP nx rs) ∧ Old h g78 := fun q => hno _ o5 fun G => by
     rcases G.prev with ⟨j2, x2, z1, z2, z3⟩ | ⟨z1, -⟩
     ·rw [f1] at z1; cases z1; rw [f2] at z2; cases z2; exact q z3
     ·rw [f1] at z1; cases z1
    have yes : (s.prev ≠ 0 → x.snap = true) → (s.snap = true → x.stamp < s.stamp) → PrevG rs s := fun a b => .inl ⟨j', x, f1, f2, a, b⟩
    refine ⟨rfl, g78, k78, _, ld1_at cs8 rfl, fun e0 => ?_, fun e0 => ?_⟩
    ·cases hs : s.snap with
     | true => exact .inl ⟨ld1_at cs8 (by simp [setC, hs]), _, ld1_at w78.1 rfl, _, ld1_at cs8 rfl, fun y => no fun q => by have := q.2 hs; omega, fun y => tail (yes (fun z => absurd e0 z) fun _ => by omega)⟩
     | false => exact .inr ⟨ld1_at cs8 (by simp [setC, hs]), tail (yes (fun z => absurd e0 z) fun z => by rw [hs] at z; cases z)⟩
    ·cases hx : x.snap with
     | true =>
       refine .inl ⟨ld1_at w78.1 (by simp [setC, hx]), ?_⟩
       cases hs : s.snap with
       | true => exact .inl ⟨ld1_at cs8 (by simp [setC, hs]), _, ld1_at w78.1 rfl, _, ld1_at cs8 rfl, fun y => no fun q => by have := q.2 hs; omega, fun y => tail (yes (fun _ => hx) fun _ => by omega)⟩
       | false => exact .inr ⟨ld1_at cs8 (by simp [setC, hs]), tail (yes (fun _ => hx) fun z => by rw [hs] at z; cases z)⟩
     | false => exact .inr ⟨ld1_at w78.1 (by simp [setC, hx]), no fun q => by have := q.1 e0; rw [hx] at this; cases this⟩
   ·refine ⟨_, _, _, _, _, _, _, _, _, _, _, _, _, .inr ⟨rfl, fun g77 e77 => ?_⟩⟩
    obtain ⟨g78, k78, n78, o78, v78⟩ := put_new e77 (vs := setC zeroR) rfl
    have o5 := o4.trans (o63.trans o78)
    have cs8 := (o5.2 _ lt).trans cb
    refine ⟨rfl, g78, k78, _, ld1_at cs8 rfl, fun e0 => right2 (h := h) (c := c) (nx := nx) kk (E := E) (T.old o5) hn32 hu hi4 (ok.old o5) cs8 (Nat.lt_of_lt_of_le lt o5.1) (fun g o => hno g (o5.trans o)) fun g o => hE g (o5.trans o) ⟨j, v, q1, q2, hv⟩ (.inr ⟨f1, e0⟩), fun e0 => hno _ o5 fun G => ?_⟩
    rcases G.prev with ⟨j2, x2, z1, -⟩ | ⟨-, z⟩
    ·rw [f1] at z1; cases z1
    ·exact e0 z
theorem right16 (kk : KRef16 K) (kr : K 23 = none) (T : Sets h p n rs) (nx : Int) : Wf Try.prog K 23 [.int .u64 nx, .slice p n c] h fun v h' => BoolIs v (RightP nx rs) ∧ Old h h' := by
 have hn := T.1
 refine vc_aquiferref16_Right kr _ _ _ _ h _ ⟨fun z => ⟨.inr ⟨rfl, fun R => by have := R.1; omega⟩, Old.refl _⟩, fun z => ⟨fun y => ⟨.inr ⟨rfl, fun R => by have := R.2.1; omega⟩, Old.refl _⟩, fun hn32 => ⟨fun i k g => ∃ u : Nat, i = u ∧ u ≤ n ∧ n - u = k ∧ Old h g ∧ ∀ (j : Nat) s, j < u → rs[j]? = some s → Good16 nx rs j s, ⟨_, 0, rfl, Nat.zero_le _, rfl, Old.refl _, fun j s hj => absurd hj (Nat.not_lt_zero _)⟩, ?_⟩⟩⟩
 rintro k1 g2 i4 ⟨u, rfl, hu, rfl, o2, hb⟩
 refine ⟨fun y => ?_, fun y => ⟨.inl ⟨rfl, good_right (by omega) (by omega) fun j s hj => hb j s (by have := (List.getElem?_eq_some_iff.1 hj).1; omega) hj⟩, o2⟩⟩
 obtain ⟨b, off, rfl, hi', hl, h1, ok⟩ := (T.old o2).at (i := u) (by omega)
 have hru := List.getElem?_eq_getElem hi'
 generalize rs[u] = s at hl h1 ok hru
 refine derefP_at ⟨by omega, y, _, _, _, _, _, _, _, _, _, _, _, _, _, by rw [Int.toNat_natCast]; exact hl, fun g20 e20 => ?_⟩
 obtain ⟨g21, k21, n21, o21, v21⟩ := put_new e20 (vs := setC s) rfl
 have w21 := v21 [] (fun c hc => by cases hc)
 refine ⟨rfl, g21, k21, _, _, _, _, _, _, _, _, _, _, _, _, _, ldN_all w21.1 rfl, (ent15 kk.r15 (ok.old o21)).mono ?_⟩
 have hno : ∀ g, Old h g → ¬ Good16 nx rs u s → (BoolIs (.bool false) (RightP nx rs) ∧ Old h g) := fun g o q => ⟨.inr ⟨rfl, fun R => q (R.good hru)⟩, o⟩
 rintro _ g36 ⟨⟨rfl, kE⟩ | ⟨rfl, kE⟩, o36⟩
 rotate_left
 ·exact .inr ⟨rfl, hno _ ((o2.trans o21).trans o36) fun G => kE G.ent⟩
 have o6 := (o2.trans o21).trans o36
 have w36 := w21.old o36
 refine .inl ⟨rfl, _, ld1_at w36.1 rfl, fun a => hno _ o6 fun G => by have := G.lt; omega, fun a => ?_⟩
 have tail := fun (q : ∀ (j : Nat) x, u = j + 1 → rs[j]? = some x → x.id < s.id) => right1 (h := h) (c := c) (nx := nx) kk (T.old o6) (by omega) hru rfl (ok.old (o21.trans o36)) w36.1 w36.2.1 (fun g o => hno g (o6.trans o)) (E := fun g => ∀ i149 : Int, i149 = IntKind.wrap .i64 ((u : Int) + 1) → ∃ j3, j3 < n - u ∧ ∃ u : Nat, i149 = u ∧ u ≤ n ∧ n - u = j3 ∧ Old h g ∧ ∀ (j : Nat) s, j < u → rs[j]? = some s → Good16 nx rs j s) fun g o g1 g2 g3 g4 g5 i149 e149 => by
  have e149 := i64w e149 (by omega) (by omega)
  refine ⟨n - (u + 1), by omega, u + 1, by omega, by omega, rfl, o6.trans o, fun j x hj hx => ?_⟩
  rcases Nat.lt_succ_iff_lt_or_eq.1 hj with hj | rfl
  ·exact hb j x hj hx
  ·rw [hru] at hx
   cases hx
   exact ⟨kE, by omega, q, g1, g2, g3, g4, g5⟩
 refine ⟨fun z0 i38 e38 => ?_, fun z0 => tail fun j x e => by omega⟩
 have e38 := i64w e38 (by omega) (by omega)
 obtain ⟨w, rfl⟩ : ∃ w, u = w + 1 := ⟨u - 1, by omega⟩
 obtain rfl : i38 = (w : Nat) := by omega
 obtain ⟨hi2, hl2, h2, -⟩ := (T.old o6).at' (i := w) (by omega)
 have hrw := List.getElem?_eq_getElem hi2
 generalize rs[w] = x at h2 hrw
 refine derefP_at ⟨by omega, by omega, _, by rw [Int.toNat_natCast]; exact h2 0 _ rfl, _, ld1_at w36.1 rfl, fun a2 => hno _ o6 fun G => by have := G.ord w x rfl hrw; omega, fun a2 => tail fun j x' e hx => ?_⟩
 obtain rfl : w = j := by omega
 rw [hrw] at hx
 cases hx
 omega
end
end Go.Am
