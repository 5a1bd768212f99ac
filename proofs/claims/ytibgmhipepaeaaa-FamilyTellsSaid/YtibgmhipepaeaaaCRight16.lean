/-
  WHICH LISTS ARE FAMILIES, as the document says: all of it.
-/
import Derived.Test.YtibgmhipepaeaaaCRef4
set_option linter.unusedVariables false
set_option linter.unusedSimpArgs false
set_option maxRecDepth 100000
namespace Go.Am
open Go.Proofs
def flrD (rs : List SetR) (id : Int) : Int := match plcN rs id with
  | none => 0
  | some i => match rs[i]? with
    | none => 0
    | some r => match plcN rs r.prev with
      | none => 0
      | some j => match rs[j]? with
        | none => 0
        | some x => x.stamp
theorem flrD_eq {rs : List SetR} (hz : plcN rs 0 = none) (id : Int) : flrD rs id = flr rs id := by
  unfold flrD flr
  cases plcN rs id with
  | none => rfl
  | some i =>
    simp only
    cases rs[i]? with
    | none => rfl
    | some r =>
      simp only
      by_cases hp : r.prev = 0
      · rw [if_pos hp, hp, hz]
      · rw [if_neg hp]
        rfl
def PrevG (rs : List SetR) (s : SetR) : Prop := (∃ j x, plcN rs s.prev = some j ∧ rs[j]? = some x ∧ (s.prev ≠ 0 → x.snap = true) ∧ (s.snap = true → x.stamp < s.stamp)) ∨ (plcN rs s.prev = none ∧ s.prev = 0)
def NameG (rs : List SetR) (u : Nat) (s : SetR) : Prop := ∀ (k : Nat) t, rs[k]? = some t → k ≠ u → ¬ (t.snap = s.snap ∧ t.name = s.name ∧ (s.snap = false ∨ t.own = s.own))
structure Good16 (nx : Int) (rs : List SetR) (u : Nat) (s : SetR) : Prop where
  ent : EntR s
  lt : s.id < nx
  ord : ∀ (j : Nat) x, u = j + 1 → rs[j]? = some x → x.id < s.id
  vol : ∃ j v, plcN rs s.own = some j ∧ rs[j]? = some v ∧ v.snap = false
  prev : PrevG rs s
  own : s.snap = true → (ownL rs s.id).length = 1
  dead : ∀ q ∈ s.dead, q.2.1 ≤ flrD rs s.id
  name : NameG rs u s
theorem RightP.good {nx : Int} {rs : List SetR} (R : RightP nx rs) {u : Nat} {s : SetR} (h : rs[u]? = some s) : Good16 nx rs u s := by
  have hm := List.mem_of_getElem? h
  have hu := R.uniq h
  obtain ⟨e1, e2, e3⟩ := R.2.2.1 u s h
  obtain ⟨⟨el1, el2⟩, ow⟩ := R.2.2.2.2 s hm
  refine ⟨e1, e2, e3, ?_, ?_, fun hs => ?_, fun q hq => ?_, fun k t hk hne hc => ?_⟩
  · obtain ⟨j, v, h1, h2, h3, -⟩ := R.vol hm
    exact ⟨j, v, h1, h2, h3⟩
  · by_cases hp : s.prev = 0
    · exact .inr ⟨by rw [hp]; exact R.zero, hp⟩
    · obtain ⟨j, x, h1, h2, h3, h4⟩ := el1 hp
      exact .inl ⟨j, x, h1, h2, fun _ => h3, h4⟩
  · have := (ow hs).2
    unfold ownL
    simp only [hu, h, hs, if_true, List.length_map]
    exact this
  · rw [flrD_eq R.zero, flr_of hu h]
    exact el2 q hq
  · have h1 := R.plcC h
    have h2 := R.plcC hk
    have : calK t = calK s := by
      unfold calK
      rw [hc.1, hc.2.1]
      rcases hc.2.2 with e | e
      · rw [e]; rfl
      · rw [e]
    rw [this, h1] at h2
    exact hne (Option.some.inj h2).symm
theorem good_right {nx : Int} {rs : List SetR} (h1 : nx ≤ 281474976710655) (h2 : rs.length ≤ 32) (h : ∀ (u : Nat) s, rs[u]? = some s → Good16 nx rs u s) : RightP nx rs := by
  have incr : ∀ (d i : Nat) (a b : SetR), rs[i]? = some a → rs[i + d + 1]? = some b → a.id < b.id := by
    intro d
    induction d with
    | zero => intro i a b ha hb; exact (h _ b hb).ord i a rfl ha
    | succ d ih =>
      intro i a b ha hb
      have hl := (List.getElem?_eq_some_iff.1 hb).1
      have hc := List.getElem?_eq_getElem (show i + d + 1 < rs.length by omega)
      have := ih i a _ ha hc
      have := (h _ b hb).ord (i + d + 1) _ (by omega) hc
      omega
  have uniq : ∀ (i : Nat) r, rs[i]? = some r → plcN rs r.id = some i := fun i r hi => plcN_some hi rfl fun j x hj hx e => by
    have := incr (i - j - 1) j x r hx (by rw [show j + (i - j - 1) + 1 = i by omega]; exact hi)
    omega
  have zero : plcN rs 0 = none := plcN_none fun r hr => by
    obtain ⟨i, hi⟩ := List.mem_iff_getElem?.1 hr
    have := (h i r hi).ent.1.1
    omega
  refine ⟨h1, h2, fun i r hi => ⟨(h i r hi).ent, (h i r hi).lt, (h i r hi).ord⟩, ?_, fun r hr => ?_⟩
  · rw [List.nodup_iff_pairwise_ne, List.pairwise_iff_getElem]
    intro i j hi hj hij
    rw [List.getElem_map, List.getElem_map]
    intro e
    have hi' : i < rs.length := by simpa using hi
    have hj' : j < rs.length := by simpa using hj
    have ga := h i _ (List.getElem?_eq_getElem hi')
    have gb := h j _ (List.getElem?_eq_getElem hj')
    refine ga.name j _ (List.getElem?_eq_getElem hj') (by omega) ?_
    have oa := ga.ent.2.1
    have ob := gb.ent.2.1
    generalize rs[i] = a at e oa
    generalize rs[j] = b at e ob
    unfold calK at e
    cases ha : a.snap <;> cases hb : b.snap <;> rw [ha, hb] at e <;> simp at e
    · exact ⟨rfl, e.symm, .inl rfl⟩
    · omega
    · omega
    · exact ⟨rfl, e.2.symm, .inr e.1.symm⟩
  · obtain ⟨i, hi⟩ := List.mem_iff_getElem?.1 hr
    have g := h i r hi
    refine ⟨⟨fun hp => ?_, fun q hq => ?_⟩, fun hs => ⟨g.vol, ?_⟩⟩
    · rcases g.prev with ⟨j, x, q1, q2, q3, q4⟩ | ⟨-, q⟩
      · exact ⟨j, x, q1, q2, q3 hp, q4⟩
      · exact absurd q hp
    · have := g.dead q hq
      rw [flrD_eq zero, flr_of (uniq i r hi) hi] at this
      exact this
    · have := g.own hs
      unfold ownL at this
      simp only [uniq i r hi, hi, hs, if_true, List.length_map] at this
      exact this
section
variable {K : Xs} {h : AH} {p : Option Addr} {n c : Nat} {rs : List SetR} {nx : Int}
theorem floorD16 (kk : KRef16 K) (T : Sets h p n rs) (id : Int) : Wf Try.prog K 33 [.slice p n c, .int .u64 id] h fun v h' => v = .int .u64 (flrD rs id) ∧ Old h h' := by
  refine vc_aquiferref16_Floor kk.floor _ _ _ _ h _ ((find16 kk T id).mono ?_)
  rintro _ g1 ⟨⟨i, r, e1, e2, rfl⟩ | ⟨e1, rfl⟩, o1⟩
  · refine ⟨_, _, _, _, _, _, _, _, _, _, _, _, _, .inl ⟨rfl, fun g15 e15 => ?_⟩⟩
    obtain ⟨g16, k16, n16, o16, v16⟩ := put_new e15 (vs := setC r) rfl
    have w16 := v16 [] (fun c hc => by cases hc)
    refine ⟨rfl, g16, k16, _, ld1_at w16.1 rfl, (find16 kk (T.old (o1.trans o16)) r.prev).mono ?_⟩
    rintro _ g19 ⟨⟨j, x, f1, f2, rfl⟩ | ⟨f1, rfl⟩, o19⟩
    · refine ⟨_, _, _, _, _, _, _, _, _, _, _, _, _, .inl ⟨rfl, fun g33 e33 => ?_⟩⟩
      obtain ⟨g34, k34, n34, o34, v34⟩ := put_new e33 (vs := setC x) rfl
      have w34 := v34 [] (fun c hc => by cases hc)
      refine ⟨rfl, g34, k34, _, ld1_at w34.1 rfl, ?_, ((o1.trans o16).trans o19).trans o34⟩
      unfold flrD
      simp only [e1, e2, f1, f2]
    · refine ⟨_, _, _, _, _, _, _, _, _, _, _, _, _, .inr ⟨rfl, fun g33 e33 => ?_⟩⟩
      obtain ⟨g34, k34, n34, o34, v34⟩ := put_new e33 (vs := setC zeroR) rfl
      refine ⟨rfl, g34, k34, ?_, ((o1.trans o16).trans o19).trans o34⟩
      unfold flrD
      simp only [e1, e2, f1]
  · refine ⟨_, _, _, _, _, _, _, _, _, _, _, _, _, .inr ⟨rfl, fun g15 e15 => ?_⟩⟩
    obtain ⟨g16, k16, n16, o16, v16⟩ := put_new e15 (vs := setC zeroR) rfl
    refine ⟨rfl, g16, k16, ?_, o1.trans o16⟩
    unfold flrD
    simp only [e1]
theorem right3 (kk : KRef16 K) {H : AH} {sb : Nat} {s : SetR} {u : Nat} {i4 : Int} {E : AH → Prop} (T : Sets H p n rs) (hn32 : n ≤ 32) (hu : rs[u]? = some s) (hi4 : i4 = (u : Int)) (ok : SetOk H s) (cb : H.get sb = some (.cells (setC s) 28 false)) (lt : sb < H.next)
    (hno : ∀ g, Old H g → ¬ Good16 nx rs u s → (BoolIs (.bool false) (RightP nx rs) ∧ Old h g)) (hE : ∀ g, Old H g → (∀ q ∈ s.dead, q.2.1 ≤ flrD rs s.id) → NameG rs u s → E g) :
    ∃ (p91 : Option Addr) (n92 c93 : Nat), ld1 H sb 10 = some (.slice p91 n92 c93) ∧
    (∃ I94 : Int → Nat → AH → Prop, (∃ n, I94 0 n H) ∧
    ∀ (k95 : Nat) (h96 : AH) (i98 : Int), I94 i98 k95 h96 →
    ((i98 : Int) < ((n92 : Nat) : Int) → derefP p91 fun b99 o100 => (((0 : Int) ≤ i98) ∧ ((i98 : Int) < ((n92 : Nat) : Int)) ∧
    (∃ i101 : Int, ∃ i102 : Int, ∃ i103 : Int, ldN h96 b99 (o100 + Int.toNat i98 * 3) 3 = some ([(.int .i64 i101), (.int .u64 i102), (.int .u32 i103)] : List Value) ∧
    (∀ h104 : AH, h104 = h96.alloc (.cells ([(.int .i64 0), (.int .u64 0), (.int .u32 0)] : List Value) 25 false) →
    (List.length ([(.int .i64 i101), (.int .u64 i102), (.int .u32 i103)] : List Value) = 3) ∧ ∃ h105 : AH, stN h104 h96.next 0 ([(.int .i64 i101), (.int .u64 i102), (.int .u32 i103)] : List Value) = some h105 ∧
    (∃ i106 : Int, ld1 h105 sb 0 = some (.int .u64 i106) ∧
    (Wf Try.prog K 33 [(.slice p n c), (.int .u64 i106)] h105 fun r107 h108 =>
    (∃ i109 : Int, r107 = (.int .u64 i109) ∧
    (∃ i110 : Int, ld1 h108 h96.next 1 = some (.int .u64 i110) ∧
    (((i109 : Int) < i110 → (ld1 h105 h96.next 1 = some (.int .u64 i110)) ∧
    ((ld1 h108 h96.next 1 = some (.int .u64 i110)) ∧
    ((BoolIs (.bool false) (RightP nx rs) ∧ Old h h108)))) ∧
    (¬ (i109 : Int) < i110 → (ld1 h105 h96.next 1 = some (.int .u64 i110)) ∧
    ((ld1 h108 h96.next 1 = some (.int .u64 i110)) ∧
    (∀ i111 : Int, i111 = IntKind.wrap .i64 (i98 + 1) → ∃ j97, j97 < k95 ∧ I94 i111 j97 h108)))))))))))) ∧
    (¬ (i98 : Int) < ((n92 : Nat) : Int) → ∃ I112 : Int → Nat → AH → Prop, (∃ n, I112 0 n h96) ∧
    ∀ (k113 : Nat) (h114 : AH) (i116 : Int), I112 i116 k113 h114 →
    ((i116 : Int) < ((n : Nat) : Int) → derefP p fun b117 o118 => (((0 : Int) ≤ i116) ∧ ((i116 : Int) < ((n : Nat) : Int)) ∧
    (∃ i119 : Int, ∃ s120 : ByteArray, ∃ b121 : Bool, ∃ i122 : Int, ∃ i123 : Int, ∃ i124 : Int, ∃ i125 : Int, ∃ i126 : Int, ∃ i127 : Int, ∃ i128 : Int, ∃ (p129 : Option Addr) (n130 c131 : Nat), ldN h114 b117 (o118 + Int.toNat i116 * 11) 11 = some ([(.int .u64 i119), (.string s120), (.bool b121), (.int .u64 i122), (.int .u64 i123), (.int .u64 i124), (.int .i64 i125), (.int .i64 i126), (.int .u64 i127), (.int .u32 i128), (.slice p129 n130 c131)] : List Value) ∧
    (∀ h132 : AH, h132 = h114.alloc (.cells ([(.int .u64 0), (.string (ByteArray.mk #[])), (.bool false), (.int .u64 0), (.int .u64 0), (.int .u64 0), (.int .i64 0), (.int .i64 0), (.int .u64 0), (.int .u32 0), (.slice none 0 0)] : List Value) 28 false) →
    (List.length ([(.int .u64 i119), (.string s120), (.bool b121), (.int .u64 i122), (.int .u64 i123), (.int .u64 i124), (.int .i64 i125), (.int .i64 i126), (.int .u64 i127), (.int .u32 i128), (.slice p129 n130 c131)] : List Value) = 11) ∧ ∃ h133 : AH, stN h132 h114.next 0 ([(.int .u64 i119), (.string s120), (.bool b121), (.int .u64 i122), (.int .u64 i123), (.int .u64 i124), (.int .i64 i125), (.int .i64 i126), (.int .u64 i127), (.int .u32 i128), (.slice p129 n130 c131)] : List Value) = some h133 ∧
    (((i116 : Int) = i4 → ∀ i134 : Int, i134 = IntKind.wrap .i64 (i116 + 1) → ∃ j115, j115 < k113 ∧ I112 i134 j115 h133) ∧
    (¬ (i116 : Int) = i4 → ((ld1 h133 h114.next 2 = some (.bool true) ∧
    (((ld1 h133 sb 2 = some (.bool true) ∧
    (∃ s135 : ByteArray, ld1 h133 h114.next 1 = some (.string s135) ∧
    (∃ s136 : ByteArray, ld1 h133 sb 1 = some (.string s136) ∧
    ((s135 = s136 → ((ld1 h133 sb 2 = some (.bool true) ∧
    (∃ i137 : Int, ld1 h133 h114.next 3 = some (.int .u64 i137) ∧
    (∃ i138 : Int, ld1 h133 sb 3 = some (.int .u64 i138) ∧
    (((i137 : Int) = i138 → (BoolIs (.bool false) (RightP nx rs) ∧ Old h h133)) ∧
    (¬ (i137 : Int) = i138 → ∀ i139 : Int, i139 = IntKind.wrap .i64 (i116 + 1) → ∃ j115, j115 < k113 ∧ I112 i139 j115 h133))))) ∨ (ld1 h133 sb 2 = some (.bool false) ∧
    ((BoolIs (.bool false) (RightP nx rs) ∧ Old h h133))))) ∧
    (¬ s135 = s136 → ∀ i140 : Int, i140 = IntKind.wrap .i64 (i116 + 1) → ∃ j115, j115 < k113 ∧ I112 i140 j115 h133))))) ∨ (ld1 h133 sb 2 = some (.bool false) ∧
    (∀ i141 : Int, i141 = IntKind.wrap .i64 (i116 + 1) → ∃ j115, j115 < k113 ∧ I112 i141 j115 h133))))) ∨ (ld1 h133 h114.next 2 = some (.bool false) ∧
    (((ld1 h133 sb 2 = some (.bool true) ∧
    (∀ i142 : Int, i142 = IntKind.wrap .i64 (i116 + 1) → ∃ j115, j115 < k113 ∧ I112 i142 j115 h133)) ∨ (ld1 h133 sb 2 = some (.bool false) ∧
    (∃ s143 : ByteArray, ld1 h133 h114.next 1 = some (.string s143) ∧
    (∃ s144 : ByteArray, ld1 h133 sb 1 = some (.string s144) ∧
    ((s143 = s144 → ((ld1 h133 sb 2 = some (.bool true) ∧
    (∃ i145 : Int, ld1 h133 h114.next 3 = some (.int .u64 i145) ∧
    (∃ i146 : Int, ld1 h133 sb 3 = some (.int .u64 i146) ∧
    (((i145 : Int) = i146 → (BoolIs (.bool false) (RightP nx rs) ∧ Old h h133)) ∧
    (¬ (i145 : Int) = i146 → ∀ i147 : Int, i147 = IntKind.wrap .i64 (i116 + 1) → ∃ j115, j115 < k113 ∧ I112 i147 j115 h133))))) ∨ (ld1 h133 sb 2 = some (.bool false) ∧
    ((BoolIs (.bool false) (RightP nx rs) ∧ Old h h133))))) ∧
    (¬ s143 = s144 → ∀ i148 : Int, i148 = IntKind.wrap .i64 (i116 + 1) → ∃ j115, j115 < k113 ∧ I112 i148 j115 h133))))))))))))))) ∧
    (¬ (i116 : Int) < ((n : Nat) : Int) → E h114))) := by
  have hn := T.1
  have hroom := ok.room
  have hlen := ok.len
  simp only [reachBytes] at hroom
  refine ⟨_, _, _, ld1_at cb rfl, fun i k g => ∃ w : Nat, i = w ∧ w ≤ s.dn ∧ s.dn - w = k ∧ Old H g ∧ ∀ (j : Nat) q, j < w → s.dead[j]? = some q → q.2.1 ≤ flrD rs s.id, ⟨_, 0, rfl, Nat.zero_le _, rfl, Old.refl _, fun j q hj => absurd hj (Nat.not_lt_zero _)⟩, ?_⟩
  rintro k95 g96 i98 ⟨w, rfl, hw, rfl, o96, hb⟩
  refine ⟨fun z => ?_, fun z => ?_⟩
  · have hwd : w < s.dead.length := by omega
    obtain ⟨b, off, hp, hld, -⟩ := (ok.shows.old o96).getN (i := w) (by omega)
    rw [ptI_get s.dead w hwd] at hld
    have hgw := List.getElem?_eq_getElem hwd
    rw [hp]
    refine derefP_at ⟨by omega, z, _, _, _, by rw [Int.toNat_natCast]; exact hld, fun g104 e104 => ?_⟩
    obtain ⟨g105, k105, n105, o105, v105⟩ := put_new e104 (vs := [.int .i64 s.dead[w].1, .int .u64 s.dead[w].2.1, .int .u32 s.dead[w].2.2]) rfl
    have w105 := v105 [] (fun c hc => by cases hc)
    have o5 := o96.trans o105
    refine ⟨rfl, g105, k105, _, ld1_at ((o5.2 _ lt).trans cb) rfl, (floorD16 kk (T.old o5) s.id).mono ?_⟩
    rintro _ g108 ⟨rfl, o108⟩
    have w108 := w105.old o108
    refine ⟨_, rfl, _, ld1_at w108.1 rfl, fun y => ⟨ld1_at w105.1 rfl, ld1_at w108.1 rfl, hno _ (o5.trans o108) fun G => ?_⟩, fun y => ⟨ld1_at w105.1 rfl, ld1_at w108.1 rfl, fun i111 e111 => ?_⟩⟩
    · have := G.dead _ (List.getElem_mem hwd)
      omega
    · have e111 := i64w e111 (by omega) (by omega)
      refine ⟨s.dn - (w + 1), by omega, w + 1, by omega, by omega, rfl, o5.trans o108, fun j q hj hq => ?_⟩
      rcases Nat.lt_succ_iff_lt_or_eq.1 hj with hj | rfl
      · exact hb j q hj hq
      · rw [hgw] at hq
        cases hq
        omega
  · have hdead : ∀ q ∈ s.dead, q.2.1 ≤ flrD rs s.id := fun q hq => by
      obtain ⟨j, hj⟩ := List.mem_iff_getElem?.1 hq
      exact hb j q (by have := (List.getElem?_eq_some_iff.1 hj).1; omega) hj
    refine ⟨fun i k g => ∃ w : Nat, i = w ∧ w ≤ n ∧ n - w = k ∧ Old H g ∧ ∀ (j : Nat) t, j < w → rs[j]? = some t → j ≠ u → ¬ (t.snap = s.snap ∧ t.name = s.name ∧ (s.snap = false ∨ t.own = s.own)), ⟨_, 0, rfl, Nat.zero_le _, rfl, o96, fun j q hj => absurd hj (Nat.not_lt_zero _)⟩, ?_⟩
    rintro k113 g114 i116 ⟨v, rfl, hv, rfl, o114, hb2⟩
    refine ⟨fun y => ?_, fun y => hE _ o114 hdead fun k t hk hne => hb2 k t (by have := (List.getElem?_eq_some_iff.1 hk).1; omega) hk hne⟩
    obtain ⟨b, off, rfl, hi', hl, h1, -⟩ := (T.old o114).at (i := v) (by omega)
    have hrv := List.getElem?_eq_getElem hi'
    generalize rs[v] = t at hl h1 hrv
    refine derefP_at ⟨by omega, y, _, _, _, _, _, _, _, _, _, _, _, _, _, by rw [Int.toNat_natCast]; exact hl, fun g132 e132 => ?_⟩
    obtain ⟨g133, k133, n133, o133, v133⟩ := put_new e132 (vs := setC t) rfl
    have w133 := v133 [] (fun c hc => by cases hc)
    have o3 := o114.trans o133
    have cs := (o3.2 _ lt).trans cb
    have step : (v = u ∨ ¬ (t.snap = s.snap ∧ t.name = s.name ∧ (s.snap = false ∨ t.own = s.own))) → ∀ i134 : Int, i134 = IntKind.wrap .i64 ((v : Int) + 1) → ∃ j115, j115 < n - v ∧ ∃ w : Nat, i134 = w ∧ w ≤ n ∧ n - w = j115 ∧ Old H g133 ∧ ∀ (j : Nat) t, j < w → rs[j]? = some t → j ≠ u → ¬ (t.snap = s.snap ∧ t.name = s.name ∧ (s.snap = false ∨ t.own = s.own)) := fun q i134 e134 => by
      have e134 := i64w e134 (by omega) (by omega)
      refine ⟨n - (v + 1), by omega, v + 1, by omega, by omega, rfl, o3, fun j x hj hx hne => ?_⟩
      rcases Nat.lt_succ_iff_lt_or_eq.1 hj with hj | rfl
      · exact hb2 j x hj hx hne
      · rw [hrv] at hx
        cases hx
        rcases q with q | q
        · exact absurd q hne
        · exact q
    have no : v ≠ u → (t.snap = s.snap ∧ t.name = s.name ∧ (s.snap = false ∨ t.own = s.own)) → BoolIs (.bool false) (RightP nx rs) ∧ Old h g133 := fun hne q => hno _ o3 fun G => G.name v t hrv hne q
    refine ⟨rfl, g133, k133, fun e => step (.inl (by omega)), fun e => ?_⟩
    have hne : v ≠ u := by omega
    rcases Bool.eq_false_or_eq_true t.snap with ht | ht
    · refine .inl ⟨ld1_at w133.1 (by simp [setC, ht]), ?_⟩
      rcases Bool.eq_false_or_eq_true s.snap with hs | hs
      · refine .inl ⟨ld1_at cs (by simp [setC, hs]), _, ld1_at w133.1 rfl, _, ld1_at cs rfl, fun e1 => .inl ⟨ld1_at cs (by simp [setC, hs]), _, ld1_at w133.1 rfl, _, ld1_at cs rfl, fun e2 => no hne ⟨by rw [ht, hs], e1, .inr e2⟩, fun e2 => step (.inr fun q => q.2.2.elim (fun z => by rw [hs] at z; cases z) e2)⟩, fun e1 => step (.inr fun q => e1 q.2.1)⟩
      · exact .inr ⟨ld1_at cs (by simp [setC, hs]), step (.inr fun q => by rw [ht, hs] at q; cases q.1)⟩
    · refine .inr ⟨ld1_at w133.1 (by simp [setC, ht]), ?_⟩
      rcases Bool.eq_false_or_eq_true s.snap with hs | hs
      · exact .inl ⟨ld1_at cs (by simp [setC, hs]), step (.inr fun q => by rw [ht, hs] at q; cases q.1)⟩
      · exact .inr ⟨ld1_at cs (by simp [setC, hs]), _, ld1_at w133.1 rfl, _, ld1_at cs rfl, fun e1 => .inr ⟨ld1_at cs (by simp [setC, hs]), no hne ⟨by rw [ht, hs], e1, .inl hs⟩⟩, fun e1 => step (.inr fun q => e1 q.2.1)⟩
theorem right2 (kk : KRef16 K) {H : AH} {sb : Nat} {s : SetR} {u : Nat} {i4 : Int} {E : AH → Prop} (T : Sets H p n rs) (hn32 : n ≤ 32) (hu : rs[u]? = some s) (hi4 : i4 = (u : Int)) (ok : SetOk H s) (cb : H.get sb = some (.cells (setC s) 28 false)) (lt : sb < H.next)
    (hno : ∀ g, Old H g → ¬ Good16 nx rs u s → (BoolIs (.bool false) (RightP nx rs) ∧ Old h g)) (hE : ∀ g, Old H g → (s.snap = true → (ownL rs s.id).length = 1) → (∀ q ∈ s.dead, q.2.1 ≤ flrD rs s.id) → NameG rs u s → E g) :
    ∃ i82 : Int, ld1 H sb 0 = some (.int .u64 i82) ∧
    (Wf Try.prog K 29 [(.slice p n c), (.int .u64 i82)] H fun r83 h84 =>
    (∃ (p85 : Option Addr) (n86 c87 : Nat), ∃ (p88 : Option Addr) (n89 c90 : Nat), r83 = (.tuple #[(.slice p85 n86 c87), (.slice p88 n89 c90)]) ∧
    (((ld1 h84 sb 2 = some (.bool true) ∧
    (((((n86 : Nat) : Int) : Int) = 1 → ∃ (p91 : Option Addr) (n92 c93 : Nat), ld1 h84 sb 10 = some (.slice p91 n92 c93) ∧
    (∃ I94 : Int → Nat → AH → Prop, (∃ n, I94 0 n h84) ∧
    ∀ (k95 : Nat) (h96 : AH) (i98 : Int), I94 i98 k95 h96 →
    ((i98 : Int) < ((n92 : Nat) : Int) → derefP p91 fun b99 o100 => (((0 : Int) ≤ i98) ∧ ((i98 : Int) < ((n92 : Nat) : Int)) ∧
    (∃ i101 : Int, ∃ i102 : Int, ∃ i103 : Int, ldN h96 b99 (o100 + Int.toNat i98 * 3) 3 = some ([(.int .i64 i101), (.int .u64 i102), (.int .u32 i103)] : List Value) ∧
    (∀ h104 : AH, h104 = h96.alloc (.cells ([(.int .i64 0), (.int .u64 0), (.int .u32 0)] : List Value) 25 false) →
    (List.length ([(.int .i64 i101), (.int .u64 i102), (.int .u32 i103)] : List Value) = 3) ∧ ∃ h105 : AH, stN h104 h96.next 0 ([(.int .i64 i101), (.int .u64 i102), (.int .u32 i103)] : List Value) = some h105 ∧
    (∃ i106 : Int, ld1 h105 sb 0 = some (.int .u64 i106) ∧
    (Wf Try.prog K 33 [(.slice p n c), (.int .u64 i106)] h105 fun r107 h108 =>
    (∃ i109 : Int, r107 = (.int .u64 i109) ∧
    (∃ i110 : Int, ld1 h108 h96.next 1 = some (.int .u64 i110) ∧
    (((i109 : Int) < i110 → (ld1 h105 h96.next 1 = some (.int .u64 i110)) ∧
    ((ld1 h108 h96.next 1 = some (.int .u64 i110)) ∧
    ((BoolIs (.bool false) (RightP nx rs) ∧ Old h h108)))) ∧
    (¬ (i109 : Int) < i110 → (ld1 h105 h96.next 1 = some (.int .u64 i110)) ∧
    ((ld1 h108 h96.next 1 = some (.int .u64 i110)) ∧
    (∀ i111 : Int, i111 = IntKind.wrap .i64 (i98 + 1) → ∃ j97, j97 < k95 ∧ I94 i111 j97 h108)))))))))))) ∧
    (¬ (i98 : Int) < ((n92 : Nat) : Int) → ∃ I112 : Int → Nat → AH → Prop, (∃ n, I112 0 n h96) ∧
    ∀ (k113 : Nat) (h114 : AH) (i116 : Int), I112 i116 k113 h114 →
    ((i116 : Int) < ((n : Nat) : Int) → derefP p fun b117 o118 => (((0 : Int) ≤ i116) ∧ ((i116 : Int) < ((n : Nat) : Int)) ∧
    (∃ i119 : Int, ∃ s120 : ByteArray, ∃ b121 : Bool, ∃ i122 : Int, ∃ i123 : Int, ∃ i124 : Int, ∃ i125 : Int, ∃ i126 : Int, ∃ i127 : Int, ∃ i128 : Int, ∃ (p129 : Option Addr) (n130 c131 : Nat), ldN h114 b117 (o118 + Int.toNat i116 * 11) 11 = some ([(.int .u64 i119), (.string s120), (.bool b121), (.int .u64 i122), (.int .u64 i123), (.int .u64 i124), (.int .i64 i125), (.int .i64 i126), (.int .u64 i127), (.int .u32 i128), (.slice p129 n130 c131)] : List Value) ∧
    (∀ h132 : AH, h132 = h114.alloc (.cells ([(.int .u64 0), (.string (ByteArray.mk #[])), (.bool false), (.int .u64 0), (.int .u64 0), (.int .u64 0), (.int .i64 0), (.int .i64 0), (.int .u64 0), (.int .u32 0), (.slice none 0 0)] : List Value) 28 false) →
    (List.length ([(.int .u64 i119), (.string s120), (.bool b121), (.int .u64 i122), (.int .u64 i123), (.int .u64 i124), (.int .i64 i125), (.int .i64 i126), (.int .u64 i127), (.int .u32 i128), (.slice p129 n130 c131)] : List Value) = 11) ∧ ∃ h133 : AH, stN h132 h114.next 0 ([(.int .u64 i119), (.string s120), (.bool b121), (.int .u64 i122), (.int .u64 i123), (.int .u64 i124), (.int .i64 i125), (.int .i64 i126), (.int .u64 i127), (.int .u32 i128), (.slice p129 n130 c131)] : List Value) = some h133 ∧
    (((i116 : Int) = i4 → ∀ i134 : Int, i134 = IntKind.wrap .i64 (i116 + 1) → ∃ j115, j115 < k113 ∧ I112 i134 j115 h133) ∧
    (¬ (i116 : Int) = i4 → ((ld1 h133 h114.next 2 = some (.bool true) ∧
    (((ld1 h133 sb 2 = some (.bool true) ∧
    (∃ s135 : ByteArray, ld1 h133 h114.next 1 = some (.string s135) ∧
    (∃ s136 : ByteArray, ld1 h133 sb 1 = some (.string s136) ∧
    ((s135 = s136 → ((ld1 h133 sb 2 = some (.bool true) ∧
    (∃ i137 : Int, ld1 h133 h114.next 3 = some (.int .u64 i137) ∧
    (∃ i138 : Int, ld1 h133 sb 3 = some (.int .u64 i138) ∧
    (((i137 : Int) = i138 → (BoolIs (.bool false) (RightP nx rs) ∧ Old h h133)) ∧
    (¬ (i137 : Int) = i138 → ∀ i139 : Int, i139 = IntKind.wrap .i64 (i116 + 1) → ∃ j115, j115 < k113 ∧ I112 i139 j115 h133))))) ∨ (ld1 h133 sb 2 = some (.bool false) ∧
    ((BoolIs (.bool false) (RightP nx rs) ∧ Old h h133))))) ∧
    (¬ s135 = s136 → ∀ i140 : Int, i140 = IntKind.wrap .i64 (i116 + 1) → ∃ j115, j115 < k113 ∧ I112 i140 j115 h133))))) ∨ (ld1 h133 sb 2 = some (.bool false) ∧
    (∀ i141 : Int, i141 = IntKind.wrap .i64 (i116 + 1) → ∃ j115, j115 < k113 ∧ I112 i141 j115 h133))))) ∨ (ld1 h133 h114.next 2 = some (.bool false) ∧
    (((ld1 h133 sb 2 = some (.bool true) ∧
    (∀ i142 : Int, i142 = IntKind.wrap .i64 (i116 + 1) → ∃ j115, j115 < k113 ∧ I112 i142 j115 h133)) ∨ (ld1 h133 sb 2 = some (.bool false) ∧
    (∃ s143 : ByteArray, ld1 h133 h114.next 1 = some (.string s143) ∧
    (∃ s144 : ByteArray, ld1 h133 sb 1 = some (.string s144) ∧
    ((s143 = s144 → ((ld1 h133 sb 2 = some (.bool true) ∧
    (∃ i145 : Int, ld1 h133 h114.next 3 = some (.int .u64 i145) ∧
    (∃ i146 : Int, ld1 h133 sb 3 = some (.int .u64 i146) ∧
    (((i145 : Int) = i146 → (BoolIs (.bool false) (RightP nx rs) ∧ Old h h133)) ∧
    (¬ (i145 : Int) = i146 → ∀ i147 : Int, i147 = IntKind.wrap .i64 (i116 + 1) → ∃ j115, j115 < k113 ∧ I112 i147 j115 h133))))) ∨ (ld1 h133 sb 2 = some (.bool false) ∧
    ((BoolIs (.bool false) (RightP nx rs) ∧ Old h h133))))) ∧
    (¬ s143 = s144 → ∀ i148 : Int, i148 = IntKind.wrap .i64 (i116 + 1) → ∃ j115, j115 < k113 ∧ I112 i148 j115 h133))))))))))))))) ∧
    (¬ (i116 : Int) < ((n : Nat) : Int) → E h114)))) ∧
    (¬ (((n86 : Nat) : Int) : Int) = 1 → (BoolIs (.bool false) (RightP nx rs) ∧ Old h h84)))) ∨ (ld1 h84 sb 2 = some (.bool false) ∧
    (∃ (p150 : Option Addr) (n151 c152 : Nat), ld1 h84 sb 10 = some (.slice p150 n151 c152) ∧
    (∃ I153 : Int → Nat → AH → Prop, (∃ n, I153 0 n h84) ∧
    ∀ (k154 : Nat) (h155 : AH) (i157 : Int), I153 i157 k154 h155 →
    ((i157 : Int) < ((n151 : Nat) : Int) → derefP p150 fun b158 o159 => (((0 : Int) ≤ i157) ∧ ((i157 : Int) < ((n151 : Nat) : Int)) ∧
    (∃ i160 : Int, ∃ i161 : Int, ∃ i162 : Int, ldN h155 b158 (o159 + Int.toNat i157 * 3) 3 = some ([(.int .i64 i160), (.int .u64 i161), (.int .u32 i162)] : List Value) ∧
    (∀ h163 : AH, h163 = h155.alloc (.cells ([(.int .i64 0), (.int .u64 0), (.int .u32 0)] : List Value) 25 false) →
    (List.length ([(.int .i64 i160), (.int .u64 i161), (.int .u32 i162)] : List Value) = 3) ∧ ∃ h164 : AH, stN h163 h155.next 0 ([(.int .i64 i160), (.int .u64 i161), (.int .u32 i162)] : List Value) = some h164 ∧
    (∃ i165 : Int, ld1 h164 sb 0 = some (.int .u64 i165) ∧
    (Wf Try.prog K 33 [(.slice p n c), (.int .u64 i165)] h164 fun r166 h167 =>
    (∃ i168 : Int, r166 = (.int .u64 i168) ∧
    (∃ i169 : Int, ld1 h167 h155.next 1 = some (.int .u64 i169) ∧
    (((i168 : Int) < i169 → (ld1 h164 h155.next 1 = some (.int .u64 i169)) ∧
    ((ld1 h167 h155.next 1 = some (.int .u64 i169)) ∧
    ((BoolIs (.bool false) (RightP nx rs) ∧ Old h h167)))) ∧
    (¬ (i168 : Int) < i169 → (ld1 h164 h155.next 1 = some (.int .u64 i169)) ∧
    ((ld1 h167 h155.next 1 = some (.int .u64 i169)) ∧
    (∀ i170 : Int, i170 = IntKind.wrap .i64 (i157 + 1) → ∃ j156, j156 < k154 ∧ I153 i170 j156 h167)))))))))))) ∧
    (¬ (i157 : Int) < ((n151 : Nat) : Int) → ∃ I171 : Int → Nat → AH → Prop, (∃ n, I171 0 n h155) ∧
    ∀ (k172 : Nat) (h173 : AH) (i175 : Int), I171 i175 k172 h173 →
    ((i175 : Int) < ((n : Nat) : Int) → derefP p fun b176 o177 => (((0 : Int) ≤ i175) ∧ ((i175 : Int) < ((n : Nat) : Int)) ∧
    (∃ i178 : Int, ∃ s179 : ByteArray, ∃ b180 : Bool, ∃ i181 : Int, ∃ i182 : Int, ∃ i183 : Int, ∃ i184 : Int, ∃ i185 : Int, ∃ i186 : Int, ∃ i187 : Int, ∃ (p188 : Option Addr) (n189 c190 : Nat), ldN h173 b176 (o177 + Int.toNat i175 * 11) 11 = some ([(.int .u64 i178), (.string s179), (.bool b180), (.int .u64 i181), (.int .u64 i182), (.int .u64 i183), (.int .i64 i184), (.int .i64 i185), (.int .u64 i186), (.int .u32 i187), (.slice p188 n189 c190)] : List Value) ∧
    (∀ h191 : AH, h191 = h173.alloc (.cells ([(.int .u64 0), (.string (ByteArray.mk #[])), (.bool false), (.int .u64 0), (.int .u64 0), (.int .u64 0), (.int .i64 0), (.int .i64 0), (.int .u64 0), (.int .u32 0), (.slice none 0 0)] : List Value) 28 false) →
    (List.length ([(.int .u64 i178), (.string s179), (.bool b180), (.int .u64 i181), (.int .u64 i182), (.int .u64 i183), (.int .i64 i184), (.int .i64 i185), (.int .u64 i186), (.int .u32 i187), (.slice p188 n189 c190)] : List Value) = 11) ∧ ∃ h192 : AH, stN h191 h173.next 0 ([(.int .u64 i178), (.string s179), (.bool b180), (.int .u64 i181), (.int .u64 i182), (.int .u64 i183), (.int .i64 i184), (.int .i64 i185), (.int .u64 i186), (.int .u32 i187), (.slice p188 n189 c190)] : List Value) = some h192 ∧
    (((i175 : Int) = i4 → ∀ i193 : Int, i193 = IntKind.wrap .i64 (i175 + 1) → ∃ j174, j174 < k172 ∧ I171 i193 j174 h192) ∧
    (¬ (i175 : Int) = i4 → ((ld1 h192 h173.next 2 = some (.bool true) ∧
    (((ld1 h192 sb 2 = some (.bool true) ∧
    (∃ s194 : ByteArray, ld1 h192 h173.next 1 = some (.string s194) ∧
    (∃ s195 : ByteArray, ld1 h192 sb 1 = some (.string s195) ∧
    ((s194 = s195 → ((ld1 h192 sb 2 = some (.bool true) ∧
    (∃ i196 : Int, ld1 h192 h173.next 3 = some (.int .u64 i196) ∧
    (∃ i197 : Int, ld1 h192 sb 3 = some (.int .u64 i197) ∧
    (((i196 : Int) = i197 → (BoolIs (.bool false) (RightP nx rs) ∧ Old h h192)) ∧
    (¬ (i196 : Int) = i197 → ∀ i198 : Int, i198 = IntKind.wrap .i64 (i175 + 1) → ∃ j174, j174 < k172 ∧ I171 i198 j174 h192))))) ∨ (ld1 h192 sb 2 = some (.bool false) ∧
    ((BoolIs (.bool false) (RightP nx rs) ∧ Old h h192))))) ∧
    (¬ s194 = s195 → ∀ i199 : Int, i199 = IntKind.wrap .i64 (i175 + 1) → ∃ j174, j174 < k172 ∧ I171 i199 j174 h192))))) ∨ (ld1 h192 sb 2 = some (.bool false) ∧
    (∀ i200 : Int, i200 = IntKind.wrap .i64 (i175 + 1) → ∃ j174, j174 < k172 ∧ I171 i200 j174 h192))))) ∨ (ld1 h192 h173.next 2 = some (.bool false) ∧
    (((ld1 h192 sb 2 = some (.bool true) ∧
    (∀ i201 : Int, i201 = IntKind.wrap .i64 (i175 + 1) → ∃ j174, j174 < k172 ∧ I171 i201 j174 h192)) ∨ (ld1 h192 sb 2 = some (.bool false) ∧
    (∃ s202 : ByteArray, ld1 h192 h173.next 1 = some (.string s202) ∧
    (∃ s203 : ByteArray, ld1 h192 sb 1 = some (.string s203) ∧
    ((s202 = s203 → ((ld1 h192 sb 2 = some (.bool true) ∧
    (∃ i204 : Int, ld1 h192 h173.next 3 = some (.int .u64 i204) ∧
    (∃ i205 : Int, ld1 h192 sb 3 = some (.int .u64 i205) ∧
    (((i204 : Int) = i205 → (BoolIs (.bool false) (RightP nx rs) ∧ Old h h192)) ∧
    (¬ (i204 : Int) = i205 → ∀ i206 : Int, i206 = IntKind.wrap .i64 (i175 + 1) → ∃ j174, j174 < k172 ∧ I171 i206 j174 h192))))) ∨ (ld1 h192 sb 2 = some (.bool false) ∧
    ((BoolIs (.bool false) (RightP nx rs) ∧ Old h h192))))) ∧
    (¬ s202 = s203 → ∀ i207 : Int, i207 = IntKind.wrap .i64 (i175 + 1) → ∃ j174, j174 < k172 ∧ I171 i207 j174 h192))))))))))))))) ∧
    (¬ (i175 : Int) < ((n : Nat) : Int) → E h173))))))))) := by
  refine ⟨_, ld1_at cb rfl, (kids16 kk T (by omega) s.id).mono ?_⟩
  rintro _ g84 ⟨p1, n1, c1, p2, n2, c2, rfl, S1, S2, o84⟩
  have hl := S1.1
  rw [u64I_len] at hl
  have cs := (o84.2 _ lt).trans cb
  have tail := fun (q : s.snap = true → (ownL rs s.id).length = 1) => right3 (h := h) (c := c) (nx := nx) kk (E := E) (T.old o84) hn32 hu hi4 (ok.old o84) cs (Nat.lt_of_lt_of_le lt o84.1) (fun g o => hno g (o84.trans o)) fun g o => hE g (o84.trans o) q
  refine ⟨_, _, _, _, _, _, rfl, ?_⟩
  cases hs : s.snap with
  | true => exact .inl ⟨ld1_at cs (by simp [setC, hs]), fun e => tail fun _ => by omega, fun e => hno _ o84 fun G => e (by have := G.own hs; omega)⟩
  | false => exact .inr ⟨ld1_at cs (by simp [setC, hs]), tail fun z => by rw [hs] at z; cases z⟩
theorem right1 (kk : KRef16 K) {H : AH} {sb : Nat} {s : SetR} {u : Nat} {i4 : Int} {E : AH → Prop} (T : Sets H p n rs) (hn32 : n ≤ 32) (hu : rs[u]? = some s) (hi4 : i4 = (u : Int)) (ok : SetOk H s) (cb : H.get sb = some (.cells (setC s) 28 false)) (lt : sb < H.next)
    (hno : ∀ g, Old H g → ¬ Good16 nx rs u s → (BoolIs (.bool false) (RightP nx rs) ∧ Old h g)) (hE : ∀ g, Old H g → (∃ j v, plcN rs s.own = some j ∧ rs[j]? = some v ∧ v.snap = false) → PrevG rs s → (s.snap = true → (ownL rs s.id).length = 1) → (∀ q ∈ s.dead, q.2.1 ≤ flrD rs s.id) → NameG rs u s → E g) :
    ∃ i43 : Int, ld1 H sb 3 = some (.int .u64 i43) ∧
    (Wf Try.prog K 25 [(.slice p n c), (.int .u64 i43)] H fun r44 h45 =>
    (∃ i46 : Int, ∃ s47 : ByteArray, ∃ b48 : Bool, ∃ i49 : Int, ∃ i50 : Int, ∃ i51 : Int, ∃ i52 : Int, ∃ i53 : Int, ∃ i54 : Int, ∃ i55 : Int, ∃ (p56 : Option Addr) (n57 c58 : Nat), ((r44 = (.tuple #[(.agg #[(.int .u64 i46), (.string s47), (.bool b48), (.int .u64 i49), (.int .u64 i50), (.int .u64 i51), (.int .i64 i52), (.int .i64 i53), (.int .u64 i54), (.int .u32 i55), (.slice p56 n57 c58)]), (.bool true)]) ∧
    (∀ h59 : AH, h59 = h45.alloc (.cells ([(.int .u64 0), (.string (ByteArray.mk #[])), (.bool false), (.int .u64 0), (.int .u64 0), (.int .u64 0), (.int .i64 0), (.int .i64 0), (.int .u64 0), (.int .u32 0), (.slice none 0 0)] : List Value) 28 false) →
    (List.length ([(.int .u64 i46), (.string s47), (.bool b48), (.int .u64 i49), (.int .u64 i50), (.int .u64 i51), (.int .i64 i52), (.int .i64 i53), (.int .u64 i54), (.int .u32 i55), (.slice p56 n57 c58)] : List Value) = 11) ∧ ∃ h60 : AH, stN h59 h45.next 0 ([(.int .u64 i46), (.string s47), (.bool b48), (.int .u64 i49), (.int .u64 i50), (.int .u64 i51), (.int .i64 i52), (.int .i64 i53), (.int .u64 i54), (.int .u32 i55), (.slice p56 n57 c58)] : List Value) = some h60 ∧
    (((ld1 h60 h45.next 2 = some (.bool true) ∧
    ((BoolIs (.bool false) (RightP nx rs) ∧ Old h h60))) ∨ (ld1 h60 h45.next 2 = some (.bool false) ∧
    (∃ i61 : Int, ld1 h60 sb 4 = some (.int .u64 i61) ∧
    (Wf Try.prog K 25 [(.slice p n c), (.int .u64 i61)] h60 fun r62 h63 =>
    (∃ i64 : Int, ∃ s65 : ByteArray, ∃ b66 : Bool, ∃ i67 : Int, ∃ i68 : Int, ∃ i69 : Int, ∃ i70 : Int, ∃ i71 : Int, ∃ i72 : Int, ∃ i73 : Int, ∃ (p74 : Option Addr) (n75 c76 : Nat), ((r62 = (.tuple #[(.agg #[(.int .u64 i64), (.string s65), (.bool b66), (.int .u64 i67), (.int .u64 i68), (.int .u64 i69), (.int .i64 i70), (.int .i64 i71), (.int .u64 i72), (.int .u32 i73), (.slice p74 n75 c76)]), (.bool true)]) ∧
    (∀ h77 : AH, h77 = h63.alloc (.cells ([(.int .u64 0), (.string (ByteArray.mk #[])), (.bool false), (.int .u64 0), (.int .u64 0), (.int .u64 0), (.int .i64 0), (.int .i64 0), (.int .u64 0), (.int .u32 0), (.slice none 0 0)] : List Value) 28 false) →
    (List.length ([(.int .u64 i64), (.string s65), (.bool b66), (.int .u64 i67), (.int .u64 i68), (.int .u64 i69), (.int .i64 i70), (.int .i64 i71), (.int .u64 i72), (.int .u32 i73), (.slice p74 n75 c76)] : List Value) = 11) ∧ ∃ h78 : AH, stN h77 h63.next 0 ([(.int .u64 i64), (.string s65), (.bool b66), (.int .u64 i67), (.int .u64 i68), (.int .u64 i69), (.int .i64 i70), (.int .i64 i71), (.int .u64 i72), (.int .u32 i73), (.slice p74 n75 c76)] : List Value) = some h78 ∧
    (∃ i79 : Int, ld1 h78 sb 4 = some (.int .u64 i79) ∧
    (((i79 : Int) = 0 → ((ld1 h78 sb 2 = some (.bool true) ∧
    (∃ i80 : Int, ld1 h78 h63.next 5 = some (.int .u64 i80) ∧
    (∃ i81 : Int, ld1 h78 sb 5 = some (.int .u64 i81) ∧
    (((i81 : Int) ≤ i80 → (BoolIs (.bool false) (RightP nx rs) ∧ Old h h78)) ∧
    (¬ (i81 : Int) ≤ i80 → ∃ i82 : Int, ld1 h78 sb 0 = some (.int .u64 i82) ∧
    (Wf Try.prog K 29 [(.slice p n c), (.int .u64 i82)] h78 fun r83 h84 =>
    (∃ (p85 : Option Addr) (n86 c87 : Nat), ∃ (p88 : Option Addr) (n89 c90 : Nat), r83 = (.tuple #[(.slice p85 n86 c87), (.slice p88 n89 c90)]) ∧
    (((ld1 h84 sb 2 = some (.bool true) ∧
    (((((n86 : Nat) : Int) : Int) = 1 → ∃ (p91 : Option Addr) (n92 c93 : Nat), ld1 h84 sb 10 = some (.slice p91 n92 c93) ∧
    (∃ I94 : Int → Nat → AH → Prop, (∃ n, I94 0 n h84) ∧
    ∀ (k95 : Nat) (h96 : AH) (i98 : Int), I94 i98 k95 h96 →
    ((i98 : Int) < ((n92 : Nat) : Int) → derefP p91 fun b99 o100 => (((0 : Int) ≤ i98) ∧ ((i98 : Int) < ((n92 : Nat) : Int)) ∧
    (∃ i101 : Int, ∃ i102 : Int, ∃ i103 : Int, ldN h96 b99 (o100 + Int.toNat i98 * 3) 3 = some ([(.int .i64 i101), (.int .u64 i102), (.int .u32 i103)] : List Value) ∧
    (∀ h104 : AH, h104 = h96.alloc (.cells ([(.int .i64 0), (.int .u64 0), (.int .u32 0)] : List Value) 25 false) →
    (List.length ([(.int .i64 i101), (.int .u64 i102), (.int .u32 i103)] : List Value) = 3) ∧ ∃ h105 : AH, stN h104 h96.next 0 ([(.int .i64 i101), (.int .u64 i102), (.int .u32 i103)] : List Value) = some h105 ∧
    (∃ i106 : Int, ld1 h105 sb 0 = some (.int .u64 i106) ∧
    (Wf Try.prog K 33 [(.slice p n c), (.int .u64 i106)] h105 fun r107 h108 =>
    (∃ i109 : Int, r107 = (.int .u64 i109) ∧
    (∃ i110 : Int, ld1 h108 h96.next 1 = some (.int .u64 i110) ∧
    (((i109 : Int) < i110 → (ld1 h105 h96.next 1 = some (.int .u64 i110)) ∧
    ((ld1 h108 h96.next 1 = some (.int .u64 i110)) ∧
    ((BoolIs (.bool false) (RightP nx rs) ∧ Old h h108)))) ∧
    (¬ (i109 : Int) < i110 → (ld1 h105 h96.next 1 = some (.int .u64 i110)) ∧
    ((ld1 h108 h96.next 1 = some (.int .u64 i110)) ∧
    (∀ i111 : Int, i111 = IntKind.wrap .i64 (i98 + 1) → ∃ j97, j97 < k95 ∧ I94 i111 j97 h108)))))))))))) ∧
    (¬ (i98 : Int) < ((n92 : Nat) : Int) → ∃ I112 : Int → Nat → AH → Prop, (∃ n, I112 0 n h96) ∧
    ∀ (k113 : Nat) (h114 : AH) (i116 : Int), I112 i116 k113 h114 →
    ((i116 : Int) < ((n : Nat) : Int) → derefP p fun b117 o118 => (((0 : Int) ≤ i116) ∧ ((i116 : Int) < ((n : Nat) : Int)) ∧
    (∃ i119 : Int, ∃ s120 : ByteArray, ∃ b121 : Bool, ∃ i122 : Int, ∃ i123 : Int, ∃ i124 : Int, ∃ i125 : Int, ∃ i126 : Int, ∃ i127 : Int, ∃ i128 : Int, ∃ (p129 : Option Addr) (n130 c131 : Nat), ldN h114 b117 (o118 + Int.toNat i116 * 11) 11 = some ([(.int .u64 i119), (.string s120), (.bool b121), (.int .u64 i122), (.int .u64 i123), (.int .u64 i124), (.int .i64 i125), (.int .i64 i126), (.int .u64 i127), (.int .u32 i128), (.slice p129 n130 c131)] : List Value) ∧
    (∀ h132 : AH, h132 = h114.alloc (.cells ([(.int .u64 0), (.string (ByteArray.mk #[])), (.bool false), (.int .u64 0), (.int .u64 0), (.int .u64 0), (.int .i64 0), (.int .i64 0), (.int .u64 0), (.int .u32 0), (.slice none 0 0)] : List Value) 28 false) →
    (List.length ([(.int .u64 i119), (.string s120), (.bool b121), (.int .u64 i122), (.int .u64 i123), (.int .u64 i124), (.int .i64 i125), (.int .i64 i126), (.int .u64 i127), (.int .u32 i128), (.slice p129 n130 c131)] : List Value) = 11) ∧ ∃ h133 : AH, stN h132 h114.next 0 ([(.int .u64 i119), (.string s120), (.bool b121), (.int .u64 i122), (.int .u64 i123), (.int .u64 i124), (.int .i64 i125), (.int .i64 i126), (.int .u64 i127), (.int .u32 i128), (.slice p129 n130 c131)] : List Value) = some h133 ∧
    (((i116 : Int) = i4 → ∀ i134 : Int, i134 = IntKind.wrap .i64 (i116 + 1) → ∃ j115, j115 < k113 ∧ I112 i134 j115 h133) ∧
    (¬ (i116 : Int) = i4 → ((ld1 h133 h114.next 2 = some (.bool true) ∧
    (((ld1 h133 sb 2 = some (.bool true) ∧
    (∃ s135 : ByteArray, ld1 h133 h114.next 1 = some (.string s135) ∧
    (∃ s136 : ByteArray, ld1 h133 sb 1 = some (.string s136) ∧
    ((s135 = s136 → ((ld1 h133 sb 2 = some (.bool true) ∧
    (∃ i137 : Int, ld1 h133 h114.next 3 = some (.int .u64 i137) ∧
    (∃ i138 : Int, ld1 h133 sb 3 = some (.int .u64 i138) ∧
    (((i137 : Int) = i138 → (BoolIs (.bool false) (RightP nx rs) ∧ Old h h133)) ∧
    (¬ (i137 : Int) = i138 → ∀ i139 : Int, i139 = IntKind.wrap .i64 (i116 + 1) → ∃ j115, j115 < k113 ∧ I112 i139 j115 h133))))) ∨ (ld1 h133 sb 2 = some (.bool false) ∧
    ((BoolIs (.bool false) (RightP nx rs) ∧ Old h h133))))) ∧
    (¬ s135 = s136 → ∀ i140 : Int, i140 = IntKind.wrap .i64 (i116 + 1) → ∃ j115, j115 < k113 ∧ I112 i140 j115 h133))))) ∨ (ld1 h133 sb 2 = some (.bool false) ∧
    (∀ i141 : Int, i141 = IntKind.wrap .i64 (i116 + 1) → ∃ j115, j115 < k113 ∧ I112 i141 j115 h133))))) ∨ (ld1 h133 h114.next 2 = some (.bool false) ∧
    (((ld1 h133 sb 2 = some (.bool true) ∧
    (∀ i142 : Int, i142 = IntKind.wrap .i64 (i116 + 1) → ∃ j115, j115 < k113 ∧ I112 i142 j115 h133)) ∨ (ld1 h133 sb 2 = some (.bool false) ∧
    (∃ s143 : ByteArray, ld1 h133 h114.next 1 = some (.string s143) ∧
    (∃ s144 : ByteArray, ld1 h133 sb 1 = some (.string s144) ∧
    ((s143 = s144 → ((ld1 h133 sb 2 = some (.bool true) ∧
    (∃ i145 : Int, ld1 h133 h114.next 3 = some (.int .u64 i145) ∧
    (∃ i146 : Int, ld1 h133 sb 3 = some (.int .u64 i146) ∧
    (((i145 : Int) = i146 → (BoolIs (.bool false) (RightP nx rs) ∧ Old h h133)) ∧
    (¬ (i145 : Int) = i146 → ∀ i147 : Int, i147 = IntKind.wrap .i64 (i116 + 1) → ∃ j115, j115 < k113 ∧ I112 i147 j115 h133))))) ∨ (ld1 h133 sb 2 = some (.bool false) ∧
    ((BoolIs (.bool false) (RightP nx rs) ∧ Old h h133))))) ∧
    (¬ s143 = s144 → ∀ i148 : Int, i148 = IntKind.wrap .i64 (i116 + 1) → ∃ j115, j115 < k113 ∧ I112 i148 j115 h133))))))))))))))) ∧
    (¬ (i116 : Int) < ((n : Nat) : Int) → E h114)))) ∧
    (¬ (((n86 : Nat) : Int) : Int) = 1 → (BoolIs (.bool false) (RightP nx rs) ∧ Old h h84)))) ∨ (ld1 h84 sb 2 = some (.bool false) ∧
    (∃ (p150 : Option Addr) (n151 c152 : Nat), ld1 h84 sb 10 = some (.slice p150 n151 c152) ∧
    (∃ I153 : Int → Nat → AH → Prop, (∃ n, I153 0 n h84) ∧
    ∀ (k154 : Nat) (h155 : AH) (i157 : Int), I153 i157 k154 h155 →
    ((i157 : Int) < ((n151 : Nat) : Int) → derefP p150 fun b158 o159 => (((0 : Int) ≤ i157) ∧ ((i157 : Int) < ((n151 : Nat) : Int)) ∧
    (∃ i160 : Int, ∃ i161 : Int, ∃ i162 : Int, ldN h155 b158 (o159 + Int.toNat i157 * 3) 3 = some ([(.int .i64 i160), (.int .u64 i161), (.int .u32 i162)] : List Value) ∧
    (∀ h163 : AH, h163 = h155.alloc (.cells ([(.int .i64 0), (.int .u64 0), (.int .u32 0)] : List Value) 25 false) →
    (List.length ([(.int .i64 i160), (.int .u64 i161), (.int .u32 i162)] : List Value) = 3) ∧ ∃ h164 : AH, stN h163 h155.next 0 ([(.int .i64 i160), (.int .u64 i161), (.int .u32 i162)] : List Value) = some h164 ∧
    (∃ i165 : Int, ld1 h164 sb 0 = some (.int .u64 i165) ∧
    (Wf Try.prog K 33 [(.slice p n c), (.int .u64 i165)] h164 fun r166 h167 =>
    (∃ i168 : Int, r166 = (.int .u64 i168) ∧
    (∃ i169 : Int, ld1 h167 h155.next 1 = some (.int .u64 i169) ∧
    (((i168 : Int) < i169 → (ld1 h164 h155.next 1 = some (.int .u64 i169)) ∧
    ((ld1 h167 h155.next 1 = some (.int .u64 i169)) ∧
    ((BoolIs (.bool false) (RightP nx rs) ∧ Old h h167)))) ∧
    (¬ (i168 : Int) < i169 → (ld1 h164 h155.next 1 = some (.int .u64 i169)) ∧
    ((ld1 h167 h155.next 1 = some (.int .u64 i169)) ∧
    (∀ i170 : Int, i170 = IntKind.wrap .i64 (i157 + 1) → ∃ j156, j156 < k154 ∧ I153 i170 j156 h167)))))))))))) ∧
    (¬ (i157 : Int) < ((n151 : Nat) : Int) → ∃ I171 : Int → Nat → AH → Prop, (∃ n, I171 0 n h155) ∧
    ∀ (k172 : Nat) (h173 : AH) (i175 : Int), I171 i175 k172 h173 →
    ((i175 : Int) < ((n : Nat) : Int) → derefP p fun b176 o177 => (((0 : Int) ≤ i175) ∧ ((i175 : Int) < ((n : Nat) : Int)) ∧
    (∃ i178 : Int, ∃ s179 : ByteArray, ∃ b180 : Bool, ∃ i181 : Int, ∃ i182 : Int, ∃ i183 : Int, ∃ i184 : Int, ∃ i185 : Int, ∃ i186 : Int, ∃ i187 : Int, ∃ (p188 : Option Addr) (n189 c190 : Nat), ldN h173 b176 (o177 + Int.toNat i175 * 11) 11 = some ([(.int .u64 i178), (.string s179), (.bool b180), (.int .u64 i181), (.int .u64 i182), (.int .u64 i183), (.int .i64 i184), (.int .i64 i185), (.int .u64 i186), (.int .u32 i187), (.slice p188 n189 c190)] : List Value) ∧
    (∀ h191 : AH, h191 = h173.alloc (.cells ([(.int .u64 0), (.string (ByteArray.mk #[])), (.bool false), (.int .u64 0), (.int .u64 0), (.int .u64 0), (.int .i64 0), (.int .i64 0), (.int .u64 0), (.int .u32 0), (.slice none 0 0)] : List Value) 28 false) →
    (List.length ([(.int .u64 i178), (.string s179), (.bool b180), (.int .u64 i181), (.int .u64 i182), (.int .u64 i183), (.int .i64 i184), (.int .i64 i185), (.int .u64 i186), (.int .u32 i187), (.slice p188 n189 c190)] : List Value) = 11) ∧ ∃ h192 : AH, stN h191 h173.next 0 ([(.int .u64 i178), (.string s179), (.bool b180), (.int .u64 i181), (.int .u64 i182), (.int .u64 i183), (.int .i64 i184), (.int .i64 i185), (.int .u64 i186), (.int .u32 i187), (.slice p188 n189 c190)] : List Value) = some h192 ∧
    (((i175 : Int) = i4 → ∀ i193 : Int, i193 = IntKind.wrap .i64 (i175 + 1) → ∃ j174, j174 < k172 ∧ I171 i193 j174 h192) ∧
    (¬ (i175 : Int) = i4 → ((ld1 h192 h173.next 2 = some (.bool true) ∧
    (((ld1 h192 sb 2 = some (.bool true) ∧
    (∃ s194 : ByteArray, ld1 h192 h173.next 1 = some (.string s194) ∧
    (∃ s195 : ByteArray, ld1 h192 sb 1 = some (.string s195) ∧
    ((s194 = s195 → ((ld1 h192 sb 2 = some (.bool true) ∧
    (∃ i196 : Int, ld1 h192 h173.next 3 = some (.int .u64 i196) ∧
    (∃ i197 : Int, ld1 h192 sb 3 = some (.int .u64 i197) ∧
    (((i196 : Int) = i197 → (BoolIs (.bool false) (RightP nx rs) ∧ Old h h192)) ∧
    (¬ (i196 : Int) = i197 → ∀ i198 : Int, i198 = IntKind.wrap .i64 (i175 + 1) → ∃ j174, j174 < k172 ∧ I171 i198 j174 h192))))) ∨ (ld1 h192 sb 2 = some (.bool false) ∧
    ((BoolIs (.bool false) (RightP nx rs) ∧ Old h h192))))) ∧
    (¬ s194 = s195 → ∀ i199 : Int, i199 = IntKind.wrap .i64 (i175 + 1) → ∃ j174, j174 < k172 ∧ I171 i199 j174 h192))))) ∨ (ld1 h192 sb 2 = some (.bool false) ∧
    (∀ i200 : Int, i200 = IntKind.wrap .i64 (i175 + 1) → ∃ j174, j174 < k172 ∧ I171 i200 j174 h192))))) ∨ (ld1 h192 h173.next 2 = some (.bool false) ∧
    (((ld1 h192 sb 2 = some (.bool true) ∧
    (∀ i201 : Int, i201 = IntKind.wrap .i64 (i175 + 1) → ∃ j174, j174 < k172 ∧ I171 i201 j174 h192)) ∨ (ld1 h192 sb 2 = some (.bool false) ∧
    (∃ s202 : ByteArray, ld1 h192 h173.next 1 = some (.string s202) ∧
    (∃ s203 : ByteArray, ld1 h192 sb 1 = some (.string s203) ∧
    ((s202 = s203 → ((ld1 h192 sb 2 = some (.bool true) ∧
    (∃ i204 : Int, ld1 h192 h173.next 3 = some (.int .u64 i204) ∧
    (∃ i205 : Int, ld1 h192 sb 3 = some (.int .u64 i205) ∧
    (((i204 : Int) = i205 → (BoolIs (.bool false) (RightP nx rs) ∧ Old h h192)) ∧
    (¬ (i204 : Int) = i205 → ∀ i206 : Int, i206 = IntKind.wrap .i64 (i175 + 1) → ∃ j174, j174 < k172 ∧ I171 i206 j174 h192))))) ∨ (ld1 h192 sb 2 = some (.bool false) ∧
    ((BoolIs (.bool false) (RightP nx rs) ∧ Old h h192))))) ∧
    (¬ s202 = s203 → ∀ i207 : Int, i207 = IntKind.wrap .i64 (i175 + 1) → ∃ j174, j174 < k172 ∧ I171 i207 j174 h192))))))))))))))) ∧
    (¬ (i175 : Int) < ((n : Nat) : Int) → E h173)))))))))))))) ∨ (ld1 h78 sb 2 = some (.bool false) ∧
    (∃ i209 : Int, ld1 h78 sb 0 = some (.int .u64 i209) ∧
    (Wf Try.prog K 29 [(.slice p n c), (.int .u64 i209)] h78 fun r210 h211 =>
    (∃ (p212 : Option Addr) (n213 c214 : Nat), ∃ (p215 : Option Addr) (n216 c217 : Nat), r210 = (.tuple #[(.slice p212 n213 c214), (.slice p215 n216 c217)]) ∧
    (((ld1 h211 sb 2 = some (.bool true) ∧
    (((((n213 : Nat) : Int) : Int) = 1 → ∃ (p218 : Option Addr) (n219 c220 : Nat), ld1 h211 sb 10 = some (.slice p218 n219 c220) ∧
    (∃ I221 : Int → Nat → AH → Prop, (∃ n, I221 0 n h211) ∧
    ∀ (k222 : Nat) (h223 : AH) (i225 : Int), I221 i225 k222 h223 →
    ((i225 : Int) < ((n219 : Nat) : Int) → derefP p218 fun b226 o227 => (((0 : Int) ≤ i225) ∧ ((i225 : Int) < ((n219 : Nat) : Int)) ∧
    (∃ i228 : Int, ∃ i229 : Int, ∃ i230 : Int, ldN h223 b226 (o227 + Int.toNat i225 * 3) 3 = some ([(.int .i64 i228), (.int .u64 i229), (.int .u32 i230)] : List Value) ∧
    (∀ h231 : AH, h231 = h223.alloc (.cells ([(.int .i64 0), (.int .u64 0), (.int .u32 0)] : List Value) 25 false) →
    (List.length ([(.int .i64 i228), (.int .u64 i229), (.int .u32 i230)] : List Value) = 3) ∧ ∃ h232 : AH, stN h231 h223.next 0 ([(.int .i64 i228), (.int .u64 i229), (.int .u32 i230)] : List Value) = some h232 ∧
    (∃ i233 : Int, ld1 h232 sb 0 = some (.int .u64 i233) ∧
    (Wf Try.prog K 33 [(.slice p n c), (.int .u64 i233)] h232 fun r234 h235 =>
    (∃ i236 : Int, r234 = (.int .u64 i236) ∧
    (∃ i237 : Int, ld1 h235 h223.next 1 = some (.int .u64 i237) ∧
    (((i236 : Int) < i237 → (ld1 h232 h223.next 1 = some (.int .u64 i237)) ∧
    ((ld1 h235 h223.next 1 = some (.int .u64 i237)) ∧
    ((BoolIs (.bool false) (RightP nx rs) ∧ Old h h235)))) ∧
    (¬ (i236 : Int) < i237 → (ld1 h232 h223.next 1 = some (.int .u64 i237)) ∧
    ((ld1 h235 h223.next 1 = some (.int .u64 i237)) ∧
    (∀ i238 : Int, i238 = IntKind.wrap .i64 (i225 + 1) → ∃ j224, j224 < k222 ∧ I221 i238 j224 h235)))))))))))) ∧
    (¬ (i225 : Int) < ((n219 : Nat) : Int) → ∃ I239 : Int → Nat → AH → Prop, (∃ n, I239 0 n h223) ∧
    ∀ (k240 : Nat) (h241 : AH) (i243 : Int), I239 i243 k240 h241 →
    ((i243 : Int) < ((n : Nat) : Int) → derefP p fun b244 o245 => (((0 : Int) ≤ i243) ∧ ((i243 : Int) < ((n : Nat) : Int)) ∧
    (∃ i246 : Int, ∃ s247 : ByteArray, ∃ b248 : Bool, ∃ i249 : Int, ∃ i250 : Int, ∃ i251 : Int, ∃ i252 : Int, ∃ i253 : Int, ∃ i254 : Int, ∃ i255 : Int, ∃ (p256 : Option Addr) (n257 c258 : Nat), ldN h241 b244 (o245 + Int.toNat i243 * 11) 11 = some ([(.int .u64 i246), (.string s247), (.bool b248), (.int .u64 i249), (.int .u64 i250), (.int .u64 i251), (.int .i64 i252), (.int .i64 i253), (.int .u64 i254), (.int .u32 i255), (.slice p256 n257 c258)] : List Value) ∧
    (∀ h259 : AH, h259 = h241.alloc (.cells ([(.int .u64 0), (.string (ByteArray.mk #[])), (.bool false), (.int .u64 0), (.int .u64 0), (.int .u64 0), (.int .i64 0), (.int .i64 0), (.int .u64 0), (.int .u32 0), (.slice none 0 0)] : List Value) 28 false) →
    (List.length ([(.int .u64 i246), (.string s247), (.bool b248), (.int .u64 i249), (.int .u64 i250), (.int .u64 i251), (.int .i64 i252), (.int .i64 i253), (.int .u64 i254), (.int .u32 i255), (.slice p256 n257 c258)] : List Value) = 11) ∧ ∃ h260 : AH, stN h259 h241.next 0 ([(.int .u64 i246), (.string s247), (.bool b248), (.int .u64 i249), (.int .u64 i250), (.int .u64 i251), (.int .i64 i252), (.int .i64 i253), (.int .u64 i254), (.int .u32 i255), (.slice p256 n257 c258)] : List Value) = some h260 ∧
    (((i243 : Int) = i4 → ∀ i261 : Int, i261 = IntKind.wrap .i64 (i243 + 1) → ∃ j242, j242 < k240 ∧ I239 i261 j242 h260) ∧
    (¬ (i243 : Int) = i4 → ((ld1 h260 h241.next 2 = some (.bool true) ∧
    (((ld1 h260 sb 2 = some (.bool true) ∧
    (∃ s262 : ByteArray, ld1 h260 h241.next 1 = some (.string s262) ∧
    (∃ s263 : ByteArray, ld1 h260 sb 1 = some (.string s263) ∧
    ((s262 = s263 → ((ld1 h260 sb 2 = some (.bool true) ∧
    (∃ i264 : Int, ld1 h260 h241.next 3 = some (.int .u64 i264) ∧
    (∃ i265 : Int, ld1 h260 sb 3 = some (.int .u64 i265) ∧
    (((i264 : Int) = i265 → (BoolIs (.bool false) (RightP nx rs) ∧ Old h h260)) ∧
    (¬ (i264 : Int) = i265 → ∀ i266 : Int, i266 = IntKind.wrap .i64 (i243 + 1) → ∃ j242, j242 < k240 ∧ I239 i266 j242 h260))))) ∨ (ld1 h260 sb 2 = some (.bool false) ∧
    ((BoolIs (.bool false) (RightP nx rs) ∧ Old h h260))))) ∧
    (¬ s262 = s263 → ∀ i267 : Int, i267 = IntKind.wrap .i64 (i243 + 1) → ∃ j242, j242 < k240 ∧ I239 i267 j242 h260))))) ∨ (ld1 h260 sb 2 = some (.bool false) ∧
    (∀ i268 : Int, i268 = IntKind.wrap .i64 (i243 + 1) → ∃ j242, j242 < k240 ∧ I239 i268 j242 h260))))) ∨ (ld1 h260 h241.next 2 = some (.bool false) ∧
    (((ld1 h260 sb 2 = some (.bool true) ∧
    (∀ i269 : Int, i269 = IntKind.wrap .i64 (i243 + 1) → ∃ j242, j242 < k240 ∧ I239 i269 j242 h260)) ∨ (ld1 h260 sb 2 = some (.bool false) ∧
    (∃ s270 : ByteArray, ld1 h260 h241.next 1 = some (.string s270) ∧
    (∃ s271 : ByteArray, ld1 h260 sb 1 = some (.string s271) ∧
    ((s270 = s271 → ((ld1 h260 sb 2 = some (.bool true) ∧
    (∃ i272 : Int, ld1 h260 h241.next 3 = some (.int .u64 i272) ∧
    (∃ i273 : Int, ld1 h260 sb 3 = some (.int .u64 i273) ∧
    (((i272 : Int) = i273 → (BoolIs (.bool false) (RightP nx rs) ∧ Old h h260)) ∧
    (¬ (i272 : Int) = i273 → ∀ i274 : Int, i274 = IntKind.wrap .i64 (i243 + 1) → ∃ j242, j242 < k240 ∧ I239 i274 j242 h260))))) ∨ (ld1 h260 sb 2 = some (.bool false) ∧
    ((BoolIs (.bool false) (RightP nx rs) ∧ Old h h260))))) ∧
    (¬ s270 = s271 → ∀ i275 : Int, i275 = IntKind.wrap .i64 (i243 + 1) → ∃ j242, j242 < k240 ∧ I239 i275 j242 h260))))))))))))))) ∧
    (¬ (i243 : Int) < ((n : Nat) : Int) → E h241)))) ∧
    (¬ (((n213 : Nat) : Int) : Int) = 1 → (BoolIs (.bool false) (RightP nx rs) ∧ Old h h211)))) ∨ (ld1 h211 sb 2 = some (.bool false) ∧
    (∃ (p277 : Option Addr) (n278 c279 : Nat), ld1 h211 sb 10 = some (.slice p277 n278 c279) ∧
    (∃ I280 : Int → Nat → AH → Prop, (∃ n, I280 0 n h211) ∧
    ∀ (k281 : Nat) (h282 : AH) (i284 : Int), I280 i284 k281 h282 →
    ((i284 : Int) < ((n278 : Nat) : Int) → derefP p277 fun b285 o286 => (((0 : Int) ≤ i284) ∧ ((i284 : Int) < ((n278 : Nat) : Int)) ∧
    (∃ i287 : Int, ∃ i288 : Int, ∃ i289 : Int, ldN h282 b285 (o286 + Int.toNat i284 * 3) 3 = some ([(.int .i64 i287), (.int .u64 i288), (.int .u32 i289)] : List Value) ∧
    (∀ h290 : AH, h290 = h282.alloc (.cells ([(.int .i64 0), (.int .u64 0), (.int .u32 0)] : List Value) 25 false) →
    (List.length ([(.int .i64 i287), (.int .u64 i288), (.int .u32 i289)] : List Value) = 3) ∧ ∃ h291 : AH, stN h290 h282.next 0 ([(.int .i64 i287), (.int .u64 i288), (.int .u32 i289)] : List Value) = some h291 ∧
    (∃ i292 : Int, ld1 h291 sb 0 = some (.int .u64 i292) ∧
    (Wf Try.prog K 33 [(.slice p n c), (.int .u64 i292)] h291 fun r293 h294 =>
    (∃ i295 : Int, r293 = (.int .u64 i295) ∧
    (∃ i296 : Int, ld1 h294 h282.next 1 = some (.int .u64 i296) ∧
    (((i295 : Int) < i296 → (ld1 h291 h282.next 1 = some (.int .u64 i296)) ∧
    ((ld1 h294 h282.next 1 = some (.int .u64 i296)) ∧
    ((BoolIs (.bool false) (RightP nx rs) ∧ Old h h294)))) ∧
    (¬ (i295 : Int) < i296 → (ld1 h291 h282.next 1 = some (.int .u64 i296)) ∧
    ((ld1 h294 h282.next 1 = some (.int .u64 i296)) ∧
    (∀ i297 : Int, i297 = IntKind.wrap .i64 (i284 + 1) → ∃ j283, j283 < k281 ∧ I280 i297 j283 h294)))))))))))) ∧
    (¬ (i284 : Int) < ((n278 : Nat) : Int) → ∃ I298 : Int → Nat → AH → Prop, (∃ n, I298 0 n h282) ∧
    ∀ (k299 : Nat) (h300 : AH) (i302 : Int), I298 i302 k299 h300 →
    ((i302 : Int) < ((n : Nat) : Int) → derefP p fun b303 o304 => (((0 : Int) ≤ i302) ∧ ((i302 : Int) < ((n : Nat) : Int)) ∧
    (∃ i305 : Int, ∃ s306 : ByteArray, ∃ b307 : Bool, ∃ i308 : Int, ∃ i309 : Int, ∃ i310 : Int, ∃ i311 : Int, ∃ i312 : Int, ∃ i313 : Int, ∃ i314 : Int, ∃ (p315 : Option Addr) (n316 c317 : Nat), ldN h300 b303 (o304 + Int.toNat i302 * 11) 11 = some ([(.int .u64 i305), (.string s306), (.bool b307), (.int .u64 i308), (.int .u64 i309), (.int .u64 i310), (.int .i64 i311), (.int .i64 i312), (.int .u64 i313), (.int .u32 i314), (.slice p315 n316 c317)] : List Value) ∧
    (∀ h318 : AH, h318 = h300.alloc (.cells ([(.int .u64 0), (.string (ByteArray.mk #[])), (.bool false), (.int .u64 0), (.int .u64 0), (.int .u64 0), (.int .i64 0), (.int .i64 0), (.int .u64 0), (.int .u32 0), (.slice none 0 0)] : List Value) 28 false) →
    (List.length ([(.int .u64 i305), (.string s306), (.bool b307), (.int .u64 i308), (.int .u64 i309), (.int .u64 i310), (.int .i64 i311), (.int .i64 i312), (.int .u64 i313), (.int .u32 i314), (.slice p315 n316 c317)] : List Value) = 11) ∧ ∃ h319 : AH, stN h318 h300.next 0 ([(.int .u64 i305), (.string s306), (.bool b307), (.int .u64 i308), (.int .u64 i309), (.int .u64 i310), (.int .i64 i311), (.int .i64 i312), (.int .u64 i313), (.int .u32 i314), (.slice p315 n316 c317)] : List Value) = some h319 ∧
    (((i302 : Int) = i4 → ∀ i320 : Int, i320 = IntKind.wrap .i64 (i302 + 1) → ∃ j301, j301 < k299 ∧ I298 i320 j301 h319) ∧
    (¬ (i302 : Int) = i4 → ((ld1 h319 h300.next 2 = some (.bool true) ∧
    (((ld1 h319 sb 2 = some (.bool true) ∧
    (∃ s321 : ByteArray, ld1 h319 h300.next 1 = some (.string s321) ∧
    (∃ s322 : ByteArray, ld1 h319 sb 1 = some (.string s322) ∧
    ((s321 = s322 → ((ld1 h319 sb 2 = some (.bool true) ∧
    (∃ i323 : Int, ld1 h319 h300.next 3 = some (.int .u64 i323) ∧
    (∃ i324 : Int, ld1 h319 sb 3 = some (.int .u64 i324) ∧
    (((i323 : Int) = i324 → (BoolIs (.bool false) (RightP nx rs) ∧ Old h h319)) ∧
    (¬ (i323 : Int) = i324 → ∀ i325 : Int, i325 = IntKind.wrap .i64 (i302 + 1) → ∃ j301, j301 < k299 ∧ I298 i325 j301 h319))))) ∨ (ld1 h319 sb 2 = some (.bool false) ∧
    ((BoolIs (.bool false) (RightP nx rs) ∧ Old h h319))))) ∧
    (¬ s321 = s322 → ∀ i326 : Int, i326 = IntKind.wrap .i64 (i302 + 1) → ∃ j301, j301 < k299 ∧ I298 i326 j301 h319))))) ∨ (ld1 h319 sb 2 = some (.bool false) ∧
    (∀ i327 : Int, i327 = IntKind.wrap .i64 (i302 + 1) → ∃ j301, j301 < k299 ∧ I298 i327 j301 h319))))) ∨ (ld1 h319 h300.next 2 = some (.bool false) ∧
    (((ld1 h319 sb 2 = some (.bool true) ∧
    (∀ i328 : Int, i328 = IntKind.wrap .i64 (i302 + 1) → ∃ j301, j301 < k299 ∧ I298 i328 j301 h319)) ∨ (ld1 h319 sb 2 = some (.bool false) ∧
    (∃ s329 : ByteArray, ld1 h319 h300.next 1 = some (.string s329) ∧
    (∃ s330 : ByteArray, ld1 h319 sb 1 = some (.string s330) ∧
    ((s329 = s330 → ((ld1 h319 sb 2 = some (.bool true) ∧
    (∃ i331 : Int, ld1 h319 h300.next 3 = some (.int .u64 i331) ∧
    (∃ i332 : Int, ld1 h319 sb 3 = some (.int .u64 i332) ∧
    (((i331 : Int) = i332 → (BoolIs (.bool false) (RightP nx rs) ∧ Old h h319)) ∧
    (¬ (i331 : Int) = i332 → ∀ i333 : Int, i333 = IntKind.wrap .i64 (i302 + 1) → ∃ j301, j301 < k299 ∧ I298 i333 j301 h319))))) ∨ (ld1 h319 sb 2 = some (.bool false) ∧
    ((BoolIs (.bool false) (RightP nx rs) ∧ Old h h319))))) ∧
    (¬ s329 = s330 → ∀ i334 : Int, i334 = IntKind.wrap .i64 (i302 + 1) → ∃ j301, j301 < k299 ∧ I298 i334 j301 h319))))))))))))))) ∧
    (¬ (i302 : Int) < ((n : Nat) : Int) → E h300))))))))))))) ∧
    (¬ (i79 : Int) = 0 → ((ld1 h78 h63.next 2 = some (.bool true) ∧
    (((ld1 h78 sb 2 = some (.bool true) ∧
    (∃ i336 : Int, ld1 h78 h63.next 5 = some (.int .u64 i336) ∧
    (∃ i337 : Int, ld1 h78 sb 5 = some (.int .u64 i337) ∧
    (((i337 : Int) ≤ i336 → (BoolIs (.bool false) (RightP nx rs) ∧ Old h h78)) ∧
    (¬ (i337 : Int) ≤ i336 → ∃ i338 : Int, ld1 h78 sb 0 = some (.int .u64 i338) ∧
    (Wf Try.prog K 29 [(.slice p n c), (.int .u64 i338)] h78 fun r339 h340 =>
    (∃ (p341 : Option Addr) (n342 c343 : Nat), ∃ (p344 : Option Addr) (n345 c346 : Nat), r339 = (.tuple #[(.slice p341 n342 c343), (.slice p344 n345 c346)]) ∧
    (((ld1 h340 sb 2 = some (.bool true) ∧
    (((((n342 : Nat) : Int) : Int) = 1 → ∃ (p347 : Option Addr) (n348 c349 : Nat), ld1 h340 sb 10 = some (.slice p347 n348 c349) ∧
    (∃ I350 : Int → Nat → AH → Prop, (∃ n, I350 0 n h340) ∧
    ∀ (k351 : Nat) (h352 : AH) (i354 : Int), I350 i354 k351 h352 →
    ((i354 : Int) < ((n348 : Nat) : Int) → derefP p347 fun b355 o356 => (((0 : Int) ≤ i354) ∧ ((i354 : Int) < ((n348 : Nat) : Int)) ∧
    (∃ i357 : Int, ∃ i358 : Int, ∃ i359 : Int, ldN h352 b355 (o356 + Int.toNat i354 * 3) 3 = some ([(.int .i64 i357), (.int .u64 i358), (.int .u32 i359)] : List Value) ∧
    (∀ h360 : AH, h360 = h352.alloc (.cells ([(.int .i64 0), (.int .u64 0), (.int .u32 0)] : List Value) 25 false) →
    (List.length ([(.int .i64 i357), (.int .u64 i358), (.int .u32 i359)] : List Value) = 3) ∧ ∃ h361 : AH, stN h360 h352.next 0 ([(.int .i64 i357), (.int .u64 i358), (.int .u32 i359)] : List Value) = some h361 ∧
    (∃ i362 : Int, ld1 h361 sb 0 = some (.int .u64 i362) ∧
    (Wf Try.prog K 33 [(.slice p n c), (.int .u64 i362)] h361 fun r363 h364 =>
    (∃ i365 : Int, r363 = (.int .u64 i365) ∧
    (∃ i366 : Int, ld1 h364 h352.next 1 = some (.int .u64 i366) ∧
    (((i365 : Int) < i366 → (ld1 h361 h352.next 1 = some (.int .u64 i366)) ∧
    ((ld1 h364 h352.next 1 = some (.int .u64 i366)) ∧
    ((BoolIs (.bool false) (RightP nx rs) ∧ Old h h364)))) ∧
    (¬ (i365 : Int) < i366 → (ld1 h361 h352.next 1 = some (.int .u64 i366)) ∧
    ((ld1 h364 h352.next 1 = some (.int .u64 i366)) ∧
    (∀ i367 : Int, i367 = IntKind.wrap .i64 (i354 + 1) → ∃ j353, j353 < k351 ∧ I350 i367 j353 h364)))))))))))) ∧
    (¬ (i354 : Int) < ((n348 : Nat) : Int) → ∃ I368 : Int → Nat → AH → Prop, (∃ n, I368 0 n h352) ∧
    ∀ (k369 : Nat) (h370 : AH) (i372 : Int), I368 i372 k369 h370 →
    ((i372 : Int) < ((n : Nat) : Int) → derefP p fun b373 o374 => (((0 : Int) ≤ i372) ∧ ((i372 : Int) < ((n : Nat) : Int)) ∧
    (∃ i375 : Int, ∃ s376 : ByteArray, ∃ b377 : Bool, ∃ i378 : Int, ∃ i379 : Int, ∃ i380 : Int, ∃ i381 : Int, ∃ i382 : Int, ∃ i383 : Int, ∃ i384 : Int, ∃ (p385 : Option Addr) (n386 c387 : Nat), ldN h370 b373 (o374 + Int.toNat i372 * 11) 11 = some ([(.int .u64 i375), (.string s376), (.bool b377), (.int .u64 i378), (.int .u64 i379), (.int .u64 i380), (.int .i64 i381), (.int .i64 i382), (.int .u64 i383), (.int .u32 i384), (.slice p385 n386 c387)] : List Value) ∧
    (∀ h388 : AH, h388 = h370.alloc (.cells ([(.int .u64 0), (.string (ByteArray.mk #[])), (.bool false), (.int .u64 0), (.int .u64 0), (.int .u64 0), (.int .i64 0), (.int .i64 0), (.int .u64 0), (.int .u32 0), (.slice none 0 0)] : List Value) 28 false) →
    (List.length ([(.int .u64 i375), (.string s376), (.bool b377), (.int .u64 i378), (.int .u64 i379), (.int .u64 i380), (.int .i64 i381), (.int .i64 i382), (.int .u64 i383), (.int .u32 i384), (.slice p385 n386 c387)] : List Value) = 11) ∧ ∃ h389 : AH, stN h388 h370.next 0 ([(.int .u64 i375), (.string s376), (.bool b377), (.int .u64 i378), (.int .u64 i379), (.int .u64 i380), (.int .i64 i381), (.int .i64 i382), (.int .u64 i383), (.int .u32 i384), (.slice p385 n386 c387)] : List Value) = some h389 ∧
    (((i372 : Int) = i4 → ∀ i390 : Int, i390 = IntKind.wrap .i64 (i372 + 1) → ∃ j371, j371 < k369 ∧ I368 i390 j371 h389) ∧
    (¬ (i372 : Int) = i4 → ((ld1 h389 h370.next 2 = some (.bool true) ∧
    (((ld1 h389 sb 2 = some (.bool true) ∧
    (∃ s391 : ByteArray, ld1 h389 h370.next 1 = some (.string s391) ∧
    (∃ s392 : ByteArray, ld1 h389 sb 1 = some (.string s392) ∧
    ((s391 = s392 → ((ld1 h389 sb 2 = some (.bool true) ∧
    (∃ i393 : Int, ld1 h389 h370.next 3 = some (.int .u64 i393) ∧
    (∃ i394 : Int, ld1 h389 sb 3 = some (.int .u64 i394) ∧
    (((i393 : Int) = i394 → (BoolIs (.bool false) (RightP nx rs) ∧ Old h h389)) ∧
    (¬ (i393 : Int) = i394 → ∀ i395 : Int, i395 = IntKind.wrap .i64 (i372 + 1) → ∃ j371, j371 < k369 ∧ I368 i395 j371 h389))))) ∨ (ld1 h389 sb 2 = some (.bool false) ∧
    ((BoolIs (.bool false) (RightP nx rs) ∧ Old h h389))))) ∧
    (¬ s391 = s392 → ∀ i396 : Int, i396 = IntKind.wrap .i64 (i372 + 1) → ∃ j371, j371 < k369 ∧ I368 i396 j371 h389))))) ∨ (ld1 h389 sb 2 = some (.bool false) ∧
    (∀ i397 : Int, i397 = IntKind.wrap .i64 (i372 + 1) → ∃ j371, j371 < k369 ∧ I368 i397 j371 h389))))) ∨ (ld1 h389 h370.next 2 = some (.bool false) ∧
    (((ld1 h389 sb 2 = some (.bool true) ∧
    (∀ i398 : Int, i398 = IntKind.wrap .i64 (i372 + 1) → ∃ j371, j371 < k369 ∧ I368 i398 j371 h389)) ∨ (ld1 h389 sb 2 = some (.bool false) ∧
    (∃ s399 : ByteArray, ld1 h389 h370.next 1 = some (.string s399) ∧
    (∃ s400 : ByteArray, ld1 h389 sb 1 = some (.string s400) ∧
    ((s399 = s400 → ((ld1 h389 sb 2 = some (.bool true) ∧
    (∃ i401 : Int, ld1 h389 h370.next 3 = some (.int .u64 i401) ∧
    (∃ i402 : Int, ld1 h389 sb 3 = some (.int .u64 i402) ∧
    (((i401 : Int) = i402 → (BoolIs (.bool false) (RightP nx rs) ∧ Old h h389)) ∧
    (¬ (i401 : Int) = i402 → ∀ i403 : Int, i403 = IntKind.wrap .i64 (i372 + 1) → ∃ j371, j371 < k369 ∧ I368 i403 j371 h389))))) ∨ (ld1 h389 sb 2 = some (.bool false) ∧
    ((BoolIs (.bool false) (RightP nx rs) ∧ Old h h389))))) ∧
    (¬ s399 = s400 → ∀ i404 : Int, i404 = IntKind.wrap .i64 (i372 + 1) → ∃ j371, j371 < k369 ∧ I368 i404 j371 h389))))))))))))))) ∧
    (¬ (i372 : Int) < ((n : Nat) : Int) → E h370)))) ∧
    (¬ (((n342 : Nat) : Int) : Int) = 1 → (BoolIs (.bool false) (RightP nx rs) ∧ Old h h340)))) ∨ (ld1 h340 sb 2 = some (.bool false) ∧
    (∃ (p406 : Option Addr) (n407 c408 : Nat), ld1 h340 sb 10 = some (.slice p406 n407 c408) ∧
    (∃ I409 : Int → Nat → AH → Prop, (∃ n, I409 0 n h340) ∧
    ∀ (k410 : Nat) (h411 : AH) (i413 : Int), I409 i413 k410 h411 →
    ((i413 : Int) < ((n407 : Nat) : Int) → derefP p406 fun b414 o415 => (((0 : Int) ≤ i413) ∧ ((i413 : Int) < ((n407 : Nat) : Int)) ∧
    (∃ i416 : Int, ∃ i417 : Int, ∃ i418 : Int, ldN h411 b414 (o415 + Int.toNat i413 * 3) 3 = some ([(.int .i64 i416), (.int .u64 i417), (.int .u32 i418)] : List Value) ∧
    (∀ h419 : AH, h419 = h411.alloc (.cells ([(.int .i64 0), (.int .u64 0), (.int .u32 0)] : List Value) 25 false) →
    (List.length ([(.int .i64 i416), (.int .u64 i417), (.int .u32 i418)] : List Value) = 3) ∧ ∃ h420 : AH, stN h419 h411.next 0 ([(.int .i64 i416), (.int .u64 i417), (.int .u32 i418)] : List Value) = some h420 ∧
    (∃ i421 : Int, ld1 h420 sb 0 = some (.int .u64 i421) ∧
    (Wf Try.prog K 33 [(.slice p n c), (.int .u64 i421)] h420 fun r422 h423 =>
    (∃ i424 : Int, r422 = (.int .u64 i424) ∧
    (∃ i425 : Int, ld1 h423 h411.next 1 = some (.int .u64 i425) ∧
    (((i424 : Int) < i425 → (ld1 h420 h411.next 1 = some (.int .u64 i425)) ∧
    ((ld1 h423 h411.next 1 = some (.int .u64 i425)) ∧
    ((BoolIs (.bool false) (RightP nx rs) ∧ Old h h423)))) ∧
    (¬ (i424 : Int) < i425 → (ld1 h420 h411.next 1 = some (.int .u64 i425)) ∧
    ((ld1 h423 h411.next 1 = some (.int .u64 i425)) ∧
    (∀ i426 : Int, i426 = IntKind.wrap .i64 (i413 + 1) → ∃ j412, j412 < k410 ∧ I409 i426 j412 h423)))))))))))) ∧
    (¬ (i413 : Int) < ((n407 : Nat) : Int) → ∃ I427 : Int → Nat → AH → Prop, (∃ n, I427 0 n h411) ∧
    ∀ (k428 : Nat) (h429 : AH) (i431 : Int), I427 i431 k428 h429 →
    ((i431 : Int) < ((n : Nat) : Int) → derefP p fun b432 o433 => (((0 : Int) ≤ i431) ∧ ((i431 : Int) < ((n : Nat) : Int)) ∧
    (∃ i434 : Int, ∃ s435 : ByteArray, ∃ b436 : Bool, ∃ i437 : Int, ∃ i438 : Int, ∃ i439 : Int, ∃ i440 : Int, ∃ i441 : Int, ∃ i442 : Int, ∃ i443 : Int, ∃ (p444 : Option Addr) (n445 c446 : Nat), ldN h429 b432 (o433 + Int.toNat i431 * 11) 11 = some ([(.int .u64 i434), (.string s435), (.bool b436), (.int .u64 i437), (.int .u64 i438), (.int .u64 i439), (.int .i64 i440), (.int .i64 i441), (.int .u64 i442), (.int .u32 i443), (.slice p444 n445 c446)] : List Value) ∧
    (∀ h447 : AH, h447 = h429.alloc (.cells ([(.int .u64 0), (.string (ByteArray.mk #[])), (.bool false), (.int .u64 0), (.int .u64 0), (.int .u64 0), (.int .i64 0), (.int .i64 0), (.int .u64 0), (.int .u32 0), (.slice none 0 0)] : List Value) 28 false) →
    (List.length ([(.int .u64 i434), (.string s435), (.bool b436), (.int .u64 i437), (.int .u64 i438), (.int .u64 i439), (.int .i64 i440), (.int .i64 i441), (.int .u64 i442), (.int .u32 i443), (.slice p444 n445 c446)] : List Value) = 11) ∧ ∃ h448 : AH, stN h447 h429.next 0 ([(.int .u64 i434), (.string s435), (.bool b436), (.int .u64 i437), (.int .u64 i438), (.int .u64 i439), (.int .i64 i440), (.int .i64 i441), (.int .u64 i442), (.int .u32 i443), (.slice p444 n445 c446)] : List Value) = some h448 ∧
    (((i431 : Int) = i4 → ∀ i449 : Int, i449 = IntKind.wrap .i64 (i431 + 1) → ∃ j430, j430 < k428 ∧ I427 i449 j430 h448) ∧
    (¬ (i431 : Int) = i4 → ((ld1 h448 h429.next 2 = some (.bool true) ∧
    (((ld1 h448 sb 2 = some (.bool true) ∧
    (∃ s450 : ByteArray, ld1 h448 h429.next 1 = some (.string s450) ∧
    (∃ s451 : ByteArray, ld1 h448 sb 1 = some (.string s451) ∧
    ((s450 = s451 → ((ld1 h448 sb 2 = some (.bool true) ∧
    (∃ i452 : Int, ld1 h448 h429.next 3 = some (.int .u64 i452) ∧
    (∃ i453 : Int, ld1 h448 sb 3 = some (.int .u64 i453) ∧
    (((i452 : Int) = i453 → (BoolIs (.bool false) (RightP nx rs) ∧ Old h h448)) ∧
    (¬ (i452 : Int) = i453 → ∀ i454 : Int, i454 = IntKind.wrap .i64 (i431 + 1) → ∃ j430, j430 < k428 ∧ I427 i454 j430 h448))))) ∨ (ld1 h448 sb 2 = some (.bool false) ∧
    ((BoolIs (.bool false) (RightP nx rs) ∧ Old h h448))))) ∧
    (¬ s450 = s451 → ∀ i455 : Int, i455 = IntKind.wrap .i64 (i431 + 1) → ∃ j430, j430 < k428 ∧ I427 i455 j430 h448))))) ∨ (ld1 h448 sb 2 = some (.bool false) ∧
    (∀ i456 : Int, i456 = IntKind.wrap .i64 (i431 + 1) → ∃ j430, j430 < k428 ∧ I427 i456 j430 h448))))) ∨ (ld1 h448 h429.next 2 = some (.bool false) ∧
    (((ld1 h448 sb 2 = some (.bool true) ∧
    (∀ i457 : Int, i457 = IntKind.wrap .i64 (i431 + 1) → ∃ j430, j430 < k428 ∧ I427 i457 j430 h448)) ∨ (ld1 h448 sb 2 = some (.bool false) ∧
    (∃ s458 : ByteArray, ld1 h448 h429.next 1 = some (.string s458) ∧
    (∃ s459 : ByteArray, ld1 h448 sb 1 = some (.string s459) ∧
    ((s458 = s459 → ((ld1 h448 sb 2 = some (.bool true) ∧
    (∃ i460 : Int, ld1 h448 h429.next 3 = some (.int .u64 i460) ∧
    (∃ i461 : Int, ld1 h448 sb 3 = some (.int .u64 i461) ∧
    (((i460 : Int) = i461 → (BoolIs (.bool false) (RightP nx rs) ∧ Old h h448)) ∧
    (¬ (i460 : Int) = i461 → ∀ i462 : Int, i462 = IntKind.wrap .i64 (i431 + 1) → ∃ j430, j430 < k428 ∧ I427 i462 j430 h448))))) ∨ (ld1 h448 sb 2 = some (.bool false) ∧
    ((BoolIs (.bool false) (RightP nx rs) ∧ Old h h448))))) ∧
    (¬ s458 = s459 → ∀ i463 : Int, i463 = IntKind.wrap .i64 (i431 + 1) → ∃ j430, j430 < k428 ∧ I427 i463 j430 h448))))))))))))))) ∧
    (¬ (i431 : Int) < ((n : Nat) : Int) → E h429)))))))))))))) ∨ (ld1 h78 sb 2 = some (.bool false) ∧
    (∃ i465 : Int, ld1 h78 sb 0 = some (.int .u64 i465) ∧
    (Wf Try.prog K 29 [(.slice p n c), (.int .u64 i465)] h78 fun r466 h467 =>
    (∃ (p468 : Option Addr) (n469 c470 : Nat), ∃ (p471 : Option Addr) (n472 c473 : Nat), r466 = (.tuple #[(.slice p468 n469 c470), (.slice p471 n472 c473)]) ∧
    (((ld1 h467 sb 2 = some (.bool true) ∧
    (((((n469 : Nat) : Int) : Int) = 1 → ∃ (p474 : Option Addr) (n475 c476 : Nat), ld1 h467 sb 10 = some (.slice p474 n475 c476) ∧
    (∃ I477 : Int → Nat → AH → Prop, (∃ n, I477 0 n h467) ∧
    ∀ (k478 : Nat) (h479 : AH) (i481 : Int), I477 i481 k478 h479 →
    ((i481 : Int) < ((n475 : Nat) : Int) → derefP p474 fun b482 o483 => (((0 : Int) ≤ i481) ∧ ((i481 : Int) < ((n475 : Nat) : Int)) ∧
    (∃ i484 : Int, ∃ i485 : Int, ∃ i486 : Int, ldN h479 b482 (o483 + Int.toNat i481 * 3) 3 = some ([(.int .i64 i484), (.int .u64 i485), (.int .u32 i486)] : List Value) ∧
    (∀ h487 : AH, h487 = h479.alloc (.cells ([(.int .i64 0), (.int .u64 0), (.int .u32 0)] : List Value) 25 false) →
    (List.length ([(.int .i64 i484), (.int .u64 i485), (.int .u32 i486)] : List Value) = 3) ∧ ∃ h488 : AH, stN h487 h479.next 0 ([(.int .i64 i484), (.int .u64 i485), (.int .u32 i486)] : List Value) = some h488 ∧
    (∃ i489 : Int, ld1 h488 sb 0 = some (.int .u64 i489) ∧
    (Wf Try.prog K 33 [(.slice p n c), (.int .u64 i489)] h488 fun r490 h491 =>
    (∃ i492 : Int, r490 = (.int .u64 i492) ∧
    (∃ i493 : Int, ld1 h491 h479.next 1 = some (.int .u64 i493) ∧
    (((i492 : Int) < i493 → (ld1 h488 h479.next 1 = some (.int .u64 i493)) ∧
    ((ld1 h491 h479.next 1 = some (.int .u64 i493)) ∧
    ((BoolIs (.bool false) (RightP nx rs) ∧ Old h h491)))) ∧
    (¬ (i492 : Int) < i493 → (ld1 h488 h479.next 1 = some (.int .u64 i493)) ∧
    ((ld1 h491 h479.next 1 = some (.int .u64 i493)) ∧
    (∀ i494 : Int, i494 = IntKind.wrap .i64 (i481 + 1) → ∃ j480, j480 < k478 ∧ I477 i494 j480 h491)))))))))))) ∧
    (¬ (i481 : Int) < ((n475 : Nat) : Int) → ∃ I495 : Int → Nat → AH → Prop, (∃ n, I495 0 n h479) ∧
    ∀ (k496 : Nat) (h497 : AH) (i499 : Int), I495 i499 k496 h497 →
    ((i499 : Int) < ((n : Nat) : Int) → derefP p fun b500 o501 => (((0 : Int) ≤ i499) ∧ ((i499 : Int) < ((n : Nat) : Int)) ∧
    (∃ i502 : Int, ∃ s503 : ByteArray, ∃ b504 : Bool, ∃ i505 : Int, ∃ i506 : Int, ∃ i507 : Int, ∃ i508 : Int, ∃ i509 : Int, ∃ i510 : Int, ∃ i511 : Int, ∃ (p512 : Option Addr) (n513 c514 : Nat), ldN h497 b500 (o501 + Int.toNat i499 * 11) 11 = some ([(.int .u64 i502), (.string s503), (.bool b504), (.int .u64 i505), (.int .u64 i506), (.int .u64 i507), (.int .i64 i508), (.int .i64 i509), (.int .u64 i510), (.int .u32 i511), (.slice p512 n513 c514)] : List Value) ∧
    (∀ h515 : AH, h515 = h497.alloc (.cells ([(.int .u64 0), (.string (ByteArray.mk #[])), (.bool false), (.int .u64 0), (.int .u64 0), (.int .u64 0), (.int .i64 0), (.int .i64 0), (.int .u64 0), (.int .u32 0), (.slice none 0 0)] : List Value) 28 false) →
    (List.length ([(.int .u64 i502), (.string s503), (.bool b504), (.int .u64 i505), (.int .u64 i506), (.int .u64 i507), (.int .i64 i508), (.int .i64 i509), (.int .u64 i510), (.int .u32 i511), (.slice p512 n513 c514)] : List Value) = 11) ∧ ∃ h516 : AH, stN h515 h497.next 0 ([(.int .u64 i502), (.string s503), (.bool b504), (.int .u64 i505), (.int .u64 i506), (.int .u64 i507), (.int .i64 i508), (.int .i64 i509), (.int .u64 i510), (.int .u32 i511), (.slice p512 n513 c514)] : List Value) = some h516 ∧
    (((i499 : Int) = i4 → ∀ i517 : Int, i517 = IntKind.wrap .i64 (i499 + 1) → ∃ j498, j498 < k496 ∧ I495 i517 j498 h516) ∧
    (¬ (i499 : Int) = i4 → ((ld1 h516 h497.next 2 = some (.bool true) ∧
    (((ld1 h516 sb 2 = some (.bool true) ∧
    (∃ s518 : ByteArray, ld1 h516 h497.next 1 = some (.string s518) ∧
    (∃ s519 : ByteArray, ld1 h516 sb 1 = some (.string s519) ∧
    ((s518 = s519 → ((ld1 h516 sb 2 = some (.bool true) ∧
    (∃ i520 : Int, ld1 h516 h497.next 3 = some (.int .u64 i520) ∧
    (∃ i521 : Int, ld1 h516 sb 3 = some (.int .u64 i521) ∧
    (((i520 : Int) = i521 → (BoolIs (.bool false) (RightP nx rs) ∧ Old h h516)) ∧
    (¬ (i520 : Int) = i521 → ∀ i522 : Int, i522 = IntKind.wrap .i64 (i499 + 1) → ∃ j498, j498 < k496 ∧ I495 i522 j498 h516))))) ∨ (ld1 h516 sb 2 = some (.bool false) ∧
    ((BoolIs (.bool false) (RightP nx rs) ∧ Old h h516))))) ∧
    (¬ s518 = s519 → ∀ i523 : Int, i523 = IntKind.wrap .i64 (i499 + 1) → ∃ j498, j498 < k496 ∧ I495 i523 j498 h516))))) ∨ (ld1 h516 sb 2 = some (.bool false) ∧
    (∀ i524 : Int, i524 = IntKind.wrap .i64 (i499 + 1) → ∃ j498, j498 < k496 ∧ I495 i524 j498 h516))))) ∨ (ld1 h516 h497.next 2 = some (.bool false) ∧
    (((ld1 h516 sb 2 = some (.bool true) ∧
    (∀ i525 : Int, i525 = IntKind.wrap .i64 (i499 + 1) → ∃ j498, j498 < k496 ∧ I495 i525 j498 h516)) ∨ (ld1 h516 sb 2 = some (.bool false) ∧
    (∃ s526 : ByteArray, ld1 h516 h497.next 1 = some (.string s526) ∧
    (∃ s527 : ByteArray, ld1 h516 sb 1 = some (.string s527) ∧
    ((s526 = s527 → ((ld1 h516 sb 2 = some (.bool true) ∧
    (∃ i528 : Int, ld1 h516 h497.next 3 = some (.int .u64 i528) ∧
    (∃ i529 : Int, ld1 h516 sb 3 = some (.int .u64 i529) ∧
    (((i528 : Int) = i529 → (BoolIs (.bool false) (RightP nx rs) ∧ Old h h516)) ∧
    (¬ (i528 : Int) = i529 → ∀ i530 : Int, i530 = IntKind.wrap .i64 (i499 + 1) → ∃ j498, j498 < k496 ∧ I495 i530 j498 h516))))) ∨ (ld1 h516 sb 2 = some (.bool false) ∧
    ((BoolIs (.bool false) (RightP nx rs) ∧ Old h h516))))) ∧
    (¬ s526 = s527 → ∀ i531 : Int, i531 = IntKind.wrap .i64 (i499 + 1) → ∃ j498, j498 < k496 ∧ I495 i531 j498 h516))))))))))))))) ∧
    (¬ (i499 : Int) < ((n : Nat) : Int) → E h497)))) ∧
    (¬ (((n469 : Nat) : Int) : Int) = 1 → (BoolIs (.bool false) (RightP nx rs) ∧ Old h h467)))) ∨ (ld1 h467 sb 2 = some (.bool false) ∧
    (∃ (p533 : Option Addr) (n534 c535 : Nat), ld1 h467 sb 10 = some (.slice p533 n534 c535) ∧
    (∃ I536 : Int → Nat → AH → Prop, (∃ n, I536 0 n h467) ∧
    ∀ (k537 : Nat) (h538 : AH) (i540 : Int), I536 i540 k537 h538 →
    ((i540 : Int) < ((n534 : Nat) : Int) → derefP p533 fun b541 o542 => (((0 : Int) ≤ i540) ∧ ((i540 : Int) < ((n534 : Nat) : Int)) ∧
    (∃ i543 : Int, ∃ i544 : Int, ∃ i545 : Int, ldN h538 b541 (o542 + Int.toNat i540 * 3) 3 = some ([(.int .i64 i543), (.int .u64 i544), (.int .u32 i545)] : List Value) ∧
    (∀ h546 : AH, h546 = h538.alloc (.cells ([(.int .i64 0), (.int .u64 0), (.int .u32 0)] : List Value) 25 false) →
    (List.length ([(.int .i64 i543), (.int .u64 i544), (.int .u32 i545)] : List Value) = 3) ∧ ∃ h547 : AH, stN h546 h538.next 0 ([(.int .i64 i543), (.int .u64 i544), (.int .u32 i545)] : List Value) = some h547 ∧
    (∃ i548 : Int, ld1 h547 sb 0 = some (.int .u64 i548) ∧
    (Wf Try.prog K 33 [(.slice p n c), (.int .u64 i548)] h547 fun r549 h550 =>
    (∃ i551 : Int, r549 = (.int .u64 i551) ∧
    (∃ i552 : Int, ld1 h550 h538.next 1 = some (.int .u64 i552) ∧
    (((i551 : Int) < i552 → (ld1 h547 h538.next 1 = some (.int .u64 i552)) ∧
    ((ld1 h550 h538.next 1 = some (.int .u64 i552)) ∧
    ((BoolIs (.bool false) (RightP nx rs) ∧ Old h h550)))) ∧
    (¬ (i551 : Int) < i552 → (ld1 h547 h538.next 1 = some (.int .u64 i552)) ∧
    ((ld1 h550 h538.next 1 = some (.int .u64 i552)) ∧
    (∀ i553 : Int, i553 = IntKind.wrap .i64 (i540 + 1) → ∃ j539, j539 < k537 ∧ I536 i553 j539 h550)))))))))))) ∧
    (¬ (i540 : Int) < ((n534 : Nat) : Int) → ∃ I554 : Int → Nat → AH → Prop, (∃ n, I554 0 n h538) ∧
    ∀ (k555 : Nat) (h556 : AH) (i558 : Int), I554 i558 k555 h556 →
    ((i558 : Int) < ((n : Nat) : Int) → derefP p fun b559 o560 => (((0 : Int) ≤ i558) ∧ ((i558 : Int) < ((n : Nat) : Int)) ∧
    (∃ i561 : Int, ∃ s562 : ByteArray, ∃ b563 : Bool, ∃ i564 : Int, ∃ i565 : Int, ∃ i566 : Int, ∃ i567 : Int, ∃ i568 : Int, ∃ i569 : Int, ∃ i570 : Int, ∃ (p571 : Option Addr) (n572 c573 : Nat), ldN h556 b559 (o560 + Int.toNat i558 * 11) 11 = some ([(.int .u64 i561), (.string s562), (.bool b563), (.int .u64 i564), (.int .u64 i565), (.int .u64 i566), (.int .i64 i567), (.int .i64 i568), (.int .u64 i569), (.int .u32 i570), (.slice p571 n572 c573)] : List Value) ∧
    (∀ h574 : AH, h574 = h556.alloc (.cells ([(.int .u64 0), (.string (ByteArray.mk #[])), (.bool false), (.int .u64 0), (.int .u64 0), (.int .u64 0), (.int .i64 0), (.int .i64 0), (.int .u64 0), (.int .u32 0), (.slice none 0 0)] : List Value) 28 false) →
    (List.length ([(.int .u64 i561), (.string s562), (.bool b563), (.int .u64 i564), (.int .u64 i565), (.int .u64 i566), (.int .i64 i567), (.int .i64 i568), (.int .u64 i569), (.int .u32 i570), (.slice p571 n572 c573)] : List Value) = 11) ∧ ∃ h575 : AH, stN h574 h556.next 0 ([(.int .u64 i561), (.string s562), (.bool b563), (.int .u64 i564), (.int .u64 i565), (.int .u64 i566), (.int .i64 i567), (.int .i64 i568), (.int .u64 i569), (.int .u32 i570), (.slice p571 n572 c573)] : List Value) = some h575 ∧
    (((i558 : Int) = i4 → ∀ i576 : Int, i576 = IntKind.wrap .i64 (i558 + 1) → ∃ j557, j557 < k555 ∧ I554 i576 j557 h575) ∧
    (¬ (i558 : Int) = i4 → ((ld1 h575 h556.next 2 = some (.bool true) ∧
    (((ld1 h575 sb 2 = some (.bool true) ∧
    (∃ s577 : ByteArray, ld1 h575 h556.next 1 = some (.string s577) ∧
    (∃ s578 : ByteArray, ld1 h575 sb 1 = some (.string s578) ∧
    ((s577 = s578 → ((ld1 h575 sb 2 = some (.bool true) ∧
    (∃ i579 : Int, ld1 h575 h556.next 3 = some (.int .u64 i579) ∧
    (∃ i580 : Int, ld1 h575 sb 3 = some (.int .u64 i580) ∧
    (((i579 : Int) = i580 → (BoolIs (.bool false) (RightP nx rs) ∧ Old h h575)) ∧
    (¬ (i579 : Int) = i580 → ∀ i581 : Int, i581 = IntKind.wrap .i64 (i558 + 1) → ∃ j557, j557 < k555 ∧ I554 i581 j557 h575))))) ∨ (ld1 h575 sb 2 = some (.bool false) ∧
    ((BoolIs (.bool false) (RightP nx rs) ∧ Old h h575))))) ∧
    (¬ s577 = s578 → ∀ i582 : Int, i582 = IntKind.wrap .i64 (i558 + 1) → ∃ j557, j557 < k555 ∧ I554 i582 j557 h575))))) ∨ (ld1 h575 sb 2 = some (.bool false) ∧
    (∀ i583 : Int, i583 = IntKind.wrap .i64 (i558 + 1) → ∃ j557, j557 < k555 ∧ I554 i583 j557 h575))))) ∨ (ld1 h575 h556.next 2 = some (.bool false) ∧
    (((ld1 h575 sb 2 = some (.bool true) ∧
    (∀ i584 : Int, i584 = IntKind.wrap .i64 (i558 + 1) → ∃ j557, j557 < k555 ∧ I554 i584 j557 h575)) ∨ (ld1 h575 sb 2 = some (.bool false) ∧
    (∃ s585 : ByteArray, ld1 h575 h556.next 1 = some (.string s585) ∧
    (∃ s586 : ByteArray, ld1 h575 sb 1 = some (.string s586) ∧
    ((s585 = s586 → ((ld1 h575 sb 2 = some (.bool true) ∧
    (∃ i587 : Int, ld1 h575 h556.next 3 = some (.int .u64 i587) ∧
    (∃ i588 : Int, ld1 h575 sb 3 = some (.int .u64 i588) ∧
    (((i587 : Int) = i588 → (BoolIs (.bool false) (RightP nx rs) ∧ Old h h575)) ∧
    (¬ (i587 : Int) = i588 → ∀ i589 : Int, i589 = IntKind.wrap .i64 (i558 + 1) → ∃ j557, j557 < k555 ∧ I554 i589 j557 h575))))) ∨ (ld1 h575 sb 2 = some (.bool false) ∧
    ((BoolIs (.bool false) (RightP nx rs) ∧ Old h h575))))) ∧
    (¬ s585 = s586 → ∀ i590 : Int, i590 = IntKind.wrap .i64 (i558 + 1) → ∃ j557, j557 < k555 ∧ I554 i590 j557 h575))))))))))))))) ∧
    (¬ (i558 : Int) < ((n : Nat) : Int) → E h556)))))))))))))) ∨ (ld1 h78 h63.next 2 = some (.bool false) ∧
    ((BoolIs (.bool false) (RightP nx rs) ∧ Old h h78))))))))) ∨ (r62 = (.tuple #[(.agg #[(.int .u64 i64), (.string s65), (.bool b66), (.int .u64 i67), (.int .u64 i68), (.int .u64 i69), (.int .i64 i70), (.int .i64 i71), (.int .u64 i72), (.int .u32 i73), (.slice p74 n75 c76)]), (.bool false)]) ∧
    (∀ h592 : AH, h592 = h63.alloc (.cells ([(.int .u64 0), (.string (ByteArray.mk #[])), (.bool false), (.int .u64 0), (.int .u64 0), (.int .u64 0), (.int .i64 0), (.int .i64 0), (.int .u64 0), (.int .u32 0), (.slice none 0 0)] : List Value) 28 false) →
    (List.length ([(.int .u64 i64), (.string s65), (.bool b66), (.int .u64 i67), (.int .u64 i68), (.int .u64 i69), (.int .i64 i70), (.int .i64 i71), (.int .u64 i72), (.int .u32 i73), (.slice p74 n75 c76)] : List Value) = 11) ∧ ∃ h593 : AH, stN h592 h63.next 0 ([(.int .u64 i64), (.string s65), (.bool b66), (.int .u64 i67), (.int .u64 i68), (.int .u64 i69), (.int .i64 i70), (.int .i64 i71), (.int .u64 i72), (.int .u32 i73), (.slice p74 n75 c76)] : List Value) = some h593 ∧
    (∃ i594 : Int, ld1 h593 sb 4 = some (.int .u64 i594) ∧
    (((i594 : Int) = 0 → ∃ i595 : Int, ld1 h593 sb 0 = some (.int .u64 i595) ∧
    (Wf Try.prog K 29 [(.slice p n c), (.int .u64 i595)] h593 fun r596 h597 =>
    (∃ (p598 : Option Addr) (n599 c600 : Nat), ∃ (p601 : Option Addr) (n602 c603 : Nat), r596 = (.tuple #[(.slice p598 n599 c600), (.slice p601 n602 c603)]) ∧
    (((ld1 h597 sb 2 = some (.bool true) ∧
    (((((n599 : Nat) : Int) : Int) = 1 → ∃ (p604 : Option Addr) (n605 c606 : Nat), ld1 h597 sb 10 = some (.slice p604 n605 c606) ∧
    (∃ I607 : Int → Nat → AH → Prop, (∃ n, I607 0 n h597) ∧
    ∀ (k608 : Nat) (h609 : AH) (i611 : Int), I607 i611 k608 h609 →
    ((i611 : Int) < ((n605 : Nat) : Int) → derefP p604 fun b612 o613 => (((0 : Int) ≤ i611) ∧ ((i611 : Int) < ((n605 : Nat) : Int)) ∧
    (∃ i614 : Int, ∃ i615 : Int, ∃ i616 : Int, ldN h609 b612 (o613 + Int.toNat i611 * 3) 3 = some ([(.int .i64 i614), (.int .u64 i615), (.int .u32 i616)] : List Value) ∧
    (∀ h617 : AH, h617 = h609.alloc (.cells ([(.int .i64 0), (.int .u64 0), (.int .u32 0)] : List Value) 25 false) →
    (List.length ([(.int .i64 i614), (.int .u64 i615), (.int .u32 i616)] : List Value) = 3) ∧ ∃ h618 : AH, stN h617 h609.next 0 ([(.int .i64 i614), (.int .u64 i615), (.int .u32 i616)] : List Value) = some h618 ∧
    (∃ i619 : Int, ld1 h618 sb 0 = some (.int .u64 i619) ∧
    (Wf Try.prog K 33 [(.slice p n c), (.int .u64 i619)] h618 fun r620 h621 =>
    (∃ i622 : Int, r620 = (.int .u64 i622) ∧
    (∃ i623 : Int, ld1 h621 h609.next 1 = some (.int .u64 i623) ∧
    (((i622 : Int) < i623 → (ld1 h618 h609.next 1 = some (.int .u64 i623)) ∧
    ((ld1 h621 h609.next 1 = some (.int .u64 i623)) ∧
    ((BoolIs (.bool false) (RightP nx rs) ∧ Old h h621)))) ∧
    (¬ (i622 : Int) < i623 → (ld1 h618 h609.next 1 = some (.int .u64 i623)) ∧
    ((ld1 h621 h609.next 1 = some (.int .u64 i623)) ∧
    (∀ i624 : Int, i624 = IntKind.wrap .i64 (i611 + 1) → ∃ j610, j610 < k608 ∧ I607 i624 j610 h621)))))))))))) ∧
    (¬ (i611 : Int) < ((n605 : Nat) : Int) → ∃ I625 : Int → Nat → AH → Prop, (∃ n, I625 0 n h609) ∧
    ∀ (k626 : Nat) (h627 : AH) (i629 : Int), I625 i629 k626 h627 →
    ((i629 : Int) < ((n : Nat) : Int) → derefP p fun b630 o631 => (((0 : Int) ≤ i629) ∧ ((i629 : Int) < ((n : Nat) : Int)) ∧
    (∃ i632 : Int, ∃ s633 : ByteArray, ∃ b634 : Bool, ∃ i635 : Int, ∃ i636 : Int, ∃ i637 : Int, ∃ i638 : Int, ∃ i639 : Int, ∃ i640 : Int, ∃ i641 : Int, ∃ (p642 : Option Addr) (n643 c644 : Nat), ldN h627 b630 (o631 + Int.toNat i629 * 11) 11 = some ([(.int .u64 i632), (.string s633), (.bool b634), (.int .u64 i635), (.int .u64 i636), (.int .u64 i637), (.int .i64 i638), (.int .i64 i639), (.int .u64 i640), (.int .u32 i641), (.slice p642 n643 c644)] : List Value) ∧
    (∀ h645 : AH, h645 = h627.alloc (.cells ([(.int .u64 0), (.string (ByteArray.mk #[])), (.bool false), (.int .u64 0), (.int .u64 0), (.int .u64 0), (.int .i64 0), (.int .i64 0), (.int .u64 0), (.int .u32 0), (.slice none 0 0)] : List Value) 28 false) →
    (List.length ([(.int .u64 i632), (.string s633), (.bool b634), (.int .u64 i635), (.int .u64 i636), (.int .u64 i637), (.int .i64 i638), (.int .i64 i639), (.int .u64 i640), (.int .u32 i641), (.slice p642 n643 c644)] : List Value) = 11) ∧ ∃ h646 : AH, stN h645 h627.next 0 ([(.int .u64 i632), (.string s633), (.bool b634), (.int .u64 i635), (.int .u64 i636), (.int .u64 i637), (.int .i64 i638), (.int .i64 i639), (.int .u64 i640), (.int .u32 i641), (.slice p642 n643 c644)] : List Value) = some h646 ∧
    (((i629 : Int) = i4 → ∀ i647 : Int, i647 = IntKind.wrap .i64 (i629 + 1) → ∃ j628, j628 < k626 ∧ I625 i647 j628 h646) ∧
    (¬ (i629 : Int) = i4 → ((ld1 h646 h627.next 2 = some (.bool true) ∧
    (((ld1 h646 sb 2 = some (.bool true) ∧
    (∃ s648 : ByteArray, ld1 h646 h627.next 1 = some (.string s648) ∧
    (∃ s649 : ByteArray, ld1 h646 sb 1 = some (.string s649) ∧
    ((s648 = s649 → ((ld1 h646 sb 2 = some (.bool true) ∧
    (∃ i650 : Int, ld1 h646 h627.next 3 = some (.int .u64 i650) ∧
    (∃ i651 : Int, ld1 h646 sb 3 = some (.int .u64 i651) ∧
    (((i650 : Int) = i651 → (BoolIs (.bool false) (RightP nx rs) ∧ Old h h646)) ∧
    (¬ (i650 : Int) = i651 → ∀ i652 : Int, i652 = IntKind.wrap .i64 (i629 + 1) → ∃ j628, j628 < k626 ∧ I625 i652 j628 h646))))) ∨ (ld1 h646 sb 2 = some (.bool false) ∧
    ((BoolIs (.bool false) (RightP nx rs) ∧ Old h h646))))) ∧
    (¬ s648 = s649 → ∀ i653 : Int, i653 = IntKind.wrap .i64 (i629 + 1) → ∃ j628, j628 < k626 ∧ I625 i653 j628 h646))))) ∨ (ld1 h646 sb 2 = some (.bool false) ∧
    (∀ i654 : Int, i654 = IntKind.wrap .i64 (i629 + 1) → ∃ j628, j628 < k626 ∧ I625 i654 j628 h646))))) ∨ (ld1 h646 h627.next 2 = some (.bool false) ∧
    (((ld1 h646 sb 2 = some (.bool true) ∧
    (∀ i655 : Int, i655 = IntKind.wrap .i64 (i629 + 1) → ∃ j628, j628 < k626 ∧ I625 i655 j628 h646)) ∨ (ld1 h646 sb 2 = some (.bool false) ∧
    (∃ s656 : ByteArray, ld1 h646 h627.next 1 = some (.string s656) ∧
    (∃ s657 : ByteArray, ld1 h646 sb 1 = some (.string s657) ∧
    ((s656 = s657 → ((ld1 h646 sb 2 = some (.bool true) ∧
    (∃ i658 : Int, ld1 h646 h627.next 3 = some (.int .u64 i658) ∧
    (∃ i659 : Int, ld1 h646 sb 3 = some (.int .u64 i659) ∧
    (((i658 : Int) = i659 → (BoolIs (.bool false) (RightP nx rs) ∧ Old h h646)) ∧
    (¬ (i658 : Int) = i659 → ∀ i660 : Int, i660 = IntKind.wrap .i64 (i629 + 1) → ∃ j628, j628 < k626 ∧ I625 i660 j628 h646))))) ∨ (ld1 h646 sb 2 = some (.bool false) ∧
    ((BoolIs (.bool false) (RightP nx rs) ∧ Old h h646))))) ∧
    (¬ s656 = s657 → ∀ i661 : Int, i661 = IntKind.wrap .i64 (i629 + 1) → ∃ j628, j628 < k626 ∧ I625 i661 j628 h646))))))))))))))) ∧
    (¬ (i629 : Int) < ((n : Nat) : Int) → E h627)))) ∧
    (¬ (((n599 : Nat) : Int) : Int) = 1 → (BoolIs (.bool false) (RightP nx rs) ∧ Old h h597)))) ∨ (ld1 h597 sb 2 = some (.bool false) ∧
    (∃ (p663 : Option Addr) (n664 c665 : Nat), ld1 h597 sb 10 = some (.slice p663 n664 c665) ∧
    (∃ I666 : Int → Nat → AH → Prop, (∃ n, I666 0 n h597) ∧
    ∀ (k667 : Nat) (h668 : AH) (i670 : Int), I666 i670 k667 h668 →
    ((i670 : Int) < ((n664 : Nat) : Int) → derefP p663 fun b671 o672 => (((0 : Int) ≤ i670) ∧ ((i670 : Int) < ((n664 : Nat) : Int)) ∧
    (∃ i673 : Int, ∃ i674 : Int, ∃ i675 : Int, ldN h668 b671 (o672 + Int.toNat i670 * 3) 3 = some ([(.int .i64 i673), (.int .u64 i674), (.int .u32 i675)] : List Value) ∧
    (∀ h676 : AH, h676 = h668.alloc (.cells ([(.int .i64 0), (.int .u64 0), (.int .u32 0)] : List Value) 25 false) →
    (List.length ([(.int .i64 i673), (.int .u64 i674), (.int .u32 i675)] : List Value) = 3) ∧ ∃ h677 : AH, stN h676 h668.next 0 ([(.int .i64 i673), (.int .u64 i674), (.int .u32 i675)] : List Value) = some h677 ∧
    (∃ i678 : Int, ld1 h677 sb 0 = some (.int .u64 i678) ∧
    (Wf Try.prog K 33 [(.slice p n c), (.int .u64 i678)] h677 fun r679 h680 =>
    (∃ i681 : Int, r679 = (.int .u64 i681) ∧
    (∃ i682 : Int, ld1 h680 h668.next 1 = some (.int .u64 i682) ∧
    (((i681 : Int) < i682 → (ld1 h677 h668.next 1 = some (.int .u64 i682)) ∧
    ((ld1 h680 h668.next 1 = some (.int .u64 i682)) ∧
    ((BoolIs (.bool false) (RightP nx rs) ∧ Old h h680)))) ∧
    (¬ (i681 : Int) < i682 → (ld1 h677 h668.next 1 = some (.int .u64 i682)) ∧
    ((ld1 h680 h668.next 1 = some (.int .u64 i682)) ∧
    (∀ i683 : Int, i683 = IntKind.wrap .i64 (i670 + 1) → ∃ j669, j669 < k667 ∧ I666 i683 j669 h680)))))))))))) ∧
    (¬ (i670 : Int) < ((n664 : Nat) : Int) → ∃ I684 : Int → Nat → AH → Prop, (∃ n, I684 0 n h668) ∧
    ∀ (k685 : Nat) (h686 : AH) (i688 : Int), I684 i688 k685 h686 →
    ((i688 : Int) < ((n : Nat) : Int) → derefP p fun b689 o690 => (((0 : Int) ≤ i688) ∧ ((i688 : Int) < ((n : Nat) : Int)) ∧
    (∃ i691 : Int, ∃ s692 : ByteArray, ∃ b693 : Bool, ∃ i694 : Int, ∃ i695 : Int, ∃ i696 : Int, ∃ i697 : Int, ∃ i698 : Int, ∃ i699 : Int, ∃ i700 : Int, ∃ (p701 : Option Addr) (n702 c703 : Nat), ldN h686 b689 (o690 + Int.toNat i688 * 11) 11 = some ([(.int .u64 i691), (.string s692), (.bool b693), (.int .u64 i694), (.int .u64 i695), (.int .u64 i696), (.int .i64 i697), (.int .i64 i698), (.int .u64 i699), (.int .u32 i700), (.slice p701 n702 c703)] : List Value) ∧
    (∀ h704 : AH, h704 = h686.alloc (.cells ([(.int .u64 0), (.string (ByteArray.mk #[])), (.bool false), (.int .u64 0), (.int .u64 0), (.int .u64 0), (.int .i64 0), (.int .i64 0), (.int .u64 0), (.int .u32 0), (.slice none 0 0)] : List Value) 28 false) →
    (List.length ([(.int .u64 i691), (.string s692), (.bool b693), (.int .u64 i694), (.int .u64 i695), (.int .u64 i696), (.int .i64 i697), (.int .i64 i698), (.int .u64 i699), (.int .u32 i700), (.slice p701 n702 c703)] : List Value) = 11) ∧ ∃ h705 : AH, stN h704 h686.next 0 ([(.int .u64 i691), (.string s692), (.bool b693), (.int .u64 i694), (.int .u64 i695), (.int .u64 i696), (.int .i64 i697), (.int .i64 i698), (.int .u64 i699), (.int .u32 i700), (.slice p701 n702 c703)] : List Value) = some h705 ∧
    (((i688 : Int) = i4 → ∀ i706 : Int, i706 = IntKind.wrap .i64 (i688 + 1) → ∃ j687, j687 < k685 ∧ I684 i706 j687 h705) ∧
    (¬ (i688 : Int) = i4 → ((ld1 h705 h686.next 2 = some (.bool true) ∧
    (((ld1 h705 sb 2 = some (.bool true) ∧
    (∃ s707 : ByteArray, ld1 h705 h686.next 1 = some (.string s707) ∧
    (∃ s708 : ByteArray, ld1 h705 sb 1 = some (.string s708) ∧
    ((s707 = s708 → ((ld1 h705 sb 2 = some (.bool true) ∧
    (∃ i709 : Int, ld1 h705 h686.next 3 = some (.int .u64 i709) ∧
    (∃ i710 : Int, ld1 h705 sb 3 = some (.int .u64 i710) ∧
    (((i709 : Int) = i710 → (BoolIs (.bool false) (RightP nx rs) ∧ Old h h705)) ∧
    (¬ (i709 : Int) = i710 → ∀ i711 : Int, i711 = IntKind.wrap .i64 (i688 + 1) → ∃ j687, j687 < k685 ∧ I684 i711 j687 h705))))) ∨ (ld1 h705 sb 2 = some (.bool false) ∧
    ((BoolIs (.bool false) (RightP nx rs) ∧ Old h h705))))) ∧
    (¬ s707 = s708 → ∀ i712 : Int, i712 = IntKind.wrap .i64 (i688 + 1) → ∃ j687, j687 < k685 ∧ I684 i712 j687 h705))))) ∨ (ld1 h705 sb 2 = some (.bool false) ∧
    (∀ i713 : Int, i713 = IntKind.wrap .i64 (i688 + 1) → ∃ j687, j687 < k685 ∧ I684 i713 j687 h705))))) ∨ (ld1 h705 h686.next 2 = some (.bool false) ∧
    (((ld1 h705 sb 2 = some (.bool true) ∧
    (∀ i714 : Int, i714 = IntKind.wrap .i64 (i688 + 1) → ∃ j687, j687 < k685 ∧ I684 i714 j687 h705)) ∨ (ld1 h705 sb 2 = some (.bool false) ∧
    (∃ s715 : ByteArray, ld1 h705 h686.next 1 = some (.string s715) ∧
    (∃ s716 : ByteArray, ld1 h705 sb 1 = some (.string s716) ∧
    ((s715 = s716 → ((ld1 h705 sb 2 = some (.bool true) ∧
    (∃ i717 : Int, ld1 h705 h686.next 3 = some (.int .u64 i717) ∧
    (∃ i718 : Int, ld1 h705 sb 3 = some (.int .u64 i718) ∧
    (((i717 : Int) = i718 → (BoolIs (.bool false) (RightP nx rs) ∧ Old h h705)) ∧
    (¬ (i717 : Int) = i718 → ∀ i719 : Int, i719 = IntKind.wrap .i64 (i688 + 1) → ∃ j687, j687 < k685 ∧ I684 i719 j687 h705))))) ∨ (ld1 h705 sb 2 = some (.bool false) ∧
    ((BoolIs (.bool false) (RightP nx rs) ∧ Old h h705))))) ∧
    (¬ s715 = s716 → ∀ i720 : Int, i720 = IntKind.wrap .i64 (i688 + 1) → ∃ j687, j687 < k685 ∧ I684 i720 j687 h705))))))))))))))) ∧
    (¬ (i688 : Int) < ((n : Nat) : Int) → E h686)))))))))) ∧
    (¬ (i594 : Int) = 0 → (BoolIs (.bool false) (RightP nx rs) ∧ Old h h593))))))))))))))) ∨ (r44 = (.tuple #[(.agg #[(.int .u64 i46), (.string s47), (.bool b48), (.int .u64 i49), (.int .u64 i50), (.int .u64 i51), (.int .i64 i52), (.int .i64 i53), (.int .u64 i54), (.int .u32 i55), (.slice p56 n57 c58)]), (.bool false)]) ∧
    (∀ h722 : AH, h722 = h45.alloc (.cells ([(.int .u64 0), (.string (ByteArray.mk #[])), (.bool false), (.int .u64 0), (.int .u64 0), (.int .u64 0), (.int .i64 0), (.int .i64 0), (.int .u64 0), (.int .u32 0), (.slice none 0 0)] : List Value) 28 false) →
    (List.length ([(.int .u64 i46), (.string s47), (.bool b48), (.int .u64 i49), (.int .u64 i50), (.int .u64 i51), (.int .i64 i52), (.int .i64 i53), (.int .u64 i54), (.int .u32 i55), (.slice p56 n57 c58)] : List Value) = 11) ∧ ∃ h723 : AH, stN h722 h45.next 0 ([(.int .u64 i46), (.string s47), (.bool b48), (.int .u64 i49), (.int .u64 i50), (.int .u64 i51), (.int .i64 i52), (.int .i64 i53), (.int .u64 i54), (.int .u32 i55), (.slice p56 n57 c58)] : List Value) = some h723 ∧
    ((BoolIs (.bool false) (RightP nx rs) ∧ Old h h723))))))) := by
  refine ⟨_, ld1_at cb rfl, (find16 kk T s.own).mono ?_⟩
  rintro _ g45 ⟨⟨j, v, q1, q2, rfl⟩ | ⟨q1, rfl⟩, o45⟩
  rotate_left
  · refine ⟨_, _, _, _, _, _, _, _, _, _, _, _, _, .inr ⟨rfl, fun g59 e59 => ?_⟩⟩
    obtain ⟨g60, k60, n60, o60, v60⟩ := put_new e59 (vs := setC zeroR) rfl
    exact ⟨rfl, g60, k60, hno _ (o45.trans o60) fun G => by obtain ⟨j, v, z, -⟩ := G.vol; rw [q1] at z; cases z⟩
  refine ⟨_, _, _, _, _, _, _, _, _, _, _, _, _, .inl ⟨rfl, fun g59 e59 => ?_⟩⟩
  obtain ⟨g60, k60, n60, o60, v60⟩ := put_new e59 (vs := setC v) rfl
  have w60 := v60 [] (fun c hc => by cases hc)
  have o4 := o45.trans o60
  refine ⟨rfl, g60, k60, ?_⟩
  cases hv : v.snap with
  | true => exact .inl ⟨ld1_at w60.1 (by simp [setC, hv]), hno _ o4 fun G => by obtain ⟨j', v', z1, z2, z3⟩ := G.vol; rw [q1] at z1; cases z1; rw [q2] at z2; cases z2; rw [hv] at z3; cases z3⟩
  | false =>
    have cs := (o4.2 _ lt).trans cb
    refine .inr ⟨ld1_at w60.1 (by simp [setC, hv]), _, ld1_at cs rfl, (find16 kk (T.old o4) s.prev).mono ?_⟩
    rintro _ g63 ⟨⟨j', x, f1, f2, rfl⟩ | ⟨f1, rfl⟩, o63⟩
    · refine ⟨_, _, _, _, _, _, _, _, _, _, _, _, _, .inl ⟨rfl, fun g77 e77 => ?_⟩⟩
      obtain ⟨g78, k78, n78, o78, v78⟩ := put_new e77 (vs := setC x) rfl
      have w78 := v78 [] (fun c hc => by cases hc)
      have o5 := o4.trans (o63.trans o78)
      have cs8 := (o5.2 _ lt).trans cb
      have tail := fun (q : PrevG rs s) => right2 (h := h) (c := c) (nx := nx) kk (E := E) (T.old o5) hn32 hu hi4 (ok.old o5) cs8 (Nat.lt_of_lt_of_le lt o5.1) (fun g o => hno g (o5.trans o)) fun g o => hE g (o5.trans o) ⟨j, v, q1, q2, hv⟩ q
      have no : ¬ ((s.prev ≠ 0 → x.snap = true) ∧ (s.snap = true → x.stamp < s.stamp)) → BoolIs (.bool false) (RightP nx rs) ∧ Old h g78 := fun q => hno _ o5 fun G => by
        rcases G.prev with ⟨j2, x2, z1, z2, z3⟩ | ⟨z1, -⟩
        · rw [f1] at z1; cases z1; rw [f2] at z2; cases z2; exact q z3
        · rw [f1] at z1; cases z1
      have yes : (s.prev ≠ 0 → x.snap = true) → (s.snap = true → x.stamp < s.stamp) → PrevG rs s := fun a b => .inl ⟨j', x, f1, f2, a, b⟩
      refine ⟨rfl, g78, k78, _, ld1_at cs8 rfl, fun e0 => ?_, fun e0 => ?_⟩
      · cases hs : s.snap with
        | true => exact .inl ⟨ld1_at cs8 (by simp [setC, hs]), _, ld1_at w78.1 rfl, _, ld1_at cs8 rfl, fun y => no fun q => by have := q.2 hs; omega, fun y => tail (yes (fun z => absurd e0 z) fun _ => by omega)⟩
        | false => exact .inr ⟨ld1_at cs8 (by simp [setC, hs]), tail (yes (fun z => absurd e0 z) fun z => by rw [hs] at z; cases z)⟩
      · cases hx : x.snap with
        | true =>
          refine .inl ⟨ld1_at w78.1 (by simp [setC, hx]), ?_⟩
          cases hs : s.snap with
          | true => exact .inl ⟨ld1_at cs8 (by simp [setC, hs]), _, ld1_at w78.1 rfl, _, ld1_at cs8 rfl, fun y => no fun q => by have := q.2 hs; omega, fun y => tail (yes (fun _ => hx) fun _ => by omega)⟩
          | false => exact .inr ⟨ld1_at cs8 (by simp [setC, hs]), tail (yes (fun _ => hx) fun z => by rw [hs] at z; cases z)⟩
        | false => exact .inr ⟨ld1_at w78.1 (by simp [setC, hx]), no fun q => by have := q.1 e0; rw [hx] at this; cases this⟩
    · refine ⟨_, _, _, _, _, _, _, _, _, _, _, _, _, .inr ⟨rfl, fun g77 e77 => ?_⟩⟩
      obtain ⟨g78, k78, n78, o78, v78⟩ := put_new e77 (vs := setC zeroR) rfl
      have o5 := o4.trans (o63.trans o78)
      have cs8 := (o5.2 _ lt).trans cb
      refine ⟨rfl, g78, k78, _, ld1_at cs8 rfl, fun e0 => right2 (h := h) (c := c) (nx := nx) kk (E := E) (T.old o5) hn32 hu hi4 (ok.old o5) cs8 (Nat.lt_of_lt_of_le lt o5.1) (fun g o => hno g (o5.trans o)) fun g o => hE g (o5.trans o) ⟨j, v, q1, q2, hv⟩ (.inr ⟨f1, e0⟩), fun e0 => hno _ o5 fun G => ?_⟩
      rcases G.prev with ⟨j2, x2, z1, -⟩ | ⟨-, z⟩
      · rw [f1] at z1; cases z1
      · exact e0 z
theorem right16 (kk : KRef16 K) (kr : K 23 = none) (T : Sets h p n rs) (nx : Int) : Wf Try.prog K 23 [.int .u64 nx, .slice p n c] h fun v h' => BoolIs v (RightP nx rs) ∧ Old h h' := by
  have hn := T.1
  refine vc_aquiferref16_Right kr _ _ _ _ h _ ⟨fun z => ⟨.inr ⟨rfl, fun R => by have := R.1; omega⟩, Old.refl _⟩, fun z => ⟨fun y => ⟨.inr ⟨rfl, fun R => by have := R.2.1; omega⟩, Old.refl _⟩, fun hn32 => ⟨fun i k g => ∃ u : Nat, i = u ∧ u ≤ n ∧ n - u = k ∧ Old h g ∧ ∀ (j : Nat) s, j < u → rs[j]? = some s → Good16 nx rs j s, ⟨_, 0, rfl, Nat.zero_le _, rfl, Old.refl _, fun j s hj => absurd hj (Nat.not_lt_zero _)⟩, ?_⟩⟩⟩
  rintro k1 g2 i4 ⟨u, rfl, hu, rfl, o2, hb⟩
  refine ⟨fun y => ?_, fun y => ⟨.inl ⟨rfl, good_right (by omega) (by omega) fun j s hj => hb j s (by have := (List.getElem?_eq_some_iff.1 hj).1; omega) hj⟩, o2⟩⟩
  obtain ⟨b, off, rfl, hi', hl, h1, ok⟩ := (T.old o2).at (i := u) (by omega)
  have hru := List.getElem?_eq_getElem hi'
  generalize rs[u] = s at hl h1 ok hru
  refine derefP_at ⟨by omega, y, _, _, _, _, _, _, _, _, _, _, _, _, _, by rw [Int.toNat_natCast]; exact hl, fun g20 e20 => ?_⟩
  obtain ⟨g21, k21, n21, o21, v21⟩ := put_new e20 (vs := setC s) rfl
  have w21 := v21 [] (fun c hc => by cases hc)
  refine ⟨rfl, g21, k21, _, _, _, _, _, _, _, _, _, _, _, _, _, ldN_all w21.1 rfl, (ent15 kk.r15 (ok.old o21)).mono ?_⟩
  have hno : ∀ g, Old h g → ¬ Good16 nx rs u s → (BoolIs (.bool false) (RightP nx rs) ∧ Old h g) := fun g o q => ⟨.inr ⟨rfl, fun R => q (R.good hru)⟩, o⟩
  rintro _ g36 ⟨⟨rfl, kE⟩ | ⟨rfl, kE⟩, o36⟩
  rotate_left
  · exact .inr ⟨rfl, hno _ ((o2.trans o21).trans o36) fun G => kE G.ent⟩
  have o6 := (o2.trans o21).trans o36
  have w36 := w21.old o36
  refine .inl ⟨rfl, _, ld1_at w36.1 rfl, fun a => hno _ o6 fun G => by have := G.lt; omega, fun a => ?_⟩
  have tail := fun (q : ∀ (j : Nat) x, u = j + 1 → rs[j]? = some x → x.id < s.id) => right1 (h := h) (c := c) (nx := nx) kk (T.old o6) (by omega) hru rfl (ok.old (o21.trans o36)) w36.1 w36.2.1 (fun g o => hno g (o6.trans o)) (E := fun g => ∀ i149 : Int, i149 = IntKind.wrap .i64 ((u : Int) + 1) → ∃ j3, j3 < n - u ∧ ∃ u : Nat, i149 = u ∧ u ≤ n ∧ n - u = j3 ∧ Old h g ∧ ∀ (j : Nat) s, j < u → rs[j]? = some s → Good16 nx rs j s) fun g o g1 g2 g3 g4 g5 i149 e149 => by
    have e149 := i64w e149 (by omega) (by omega)
    refine ⟨n - (u + 1), by omega, u + 1, by omega, by omega, rfl, o6.trans o, fun j x hj hx => ?_⟩
    rcases Nat.lt_succ_iff_lt_or_eq.1 hj with hj | rfl
    · exact hb j x hj hx
    · rw [hru] at hx
      cases hx
      exact ⟨kE, by omega, q, g1, g2, g3, g4, g5⟩
  refine ⟨fun z0 i38 e38 => ?_, fun z0 => tail fun j x e => by omega⟩
  have e38 := i64w e38 (by omega) (by omega)
  obtain ⟨w, rfl⟩ : ∃ w, u = w + 1 := ⟨u - 1, by omega⟩
  obtain rfl : i38 = (w : Nat) := by omega
  obtain ⟨hi2, hl2, h2, -⟩ := (T.old o6).at' (i := w) (by omega)
  have hrw := List.getElem?_eq_getElem hi2
  generalize rs[w] = x at h2 hrw
  refine derefP_at ⟨by omega, by omega, _, by rw [Int.toNat_natCast]; exact h2 0 _ rfl, _, ld1_at w36.1 rfl, fun a2 => hno _ o6 fun G => by have := G.ord w x rfl hrw; omega, fun a2 => tail fun j x' e hx => ?_⟩
  obtain rfl : w = j := by omega
  rw [hrw] at hx
  cases hx
  omega
end
end Go.Am
