/-
  THE DOCUMENT'S ANSWERS of layer 2: numbers as bytes, texts joined, texts split.
-/
import Derived.Test.YtbadadkkpihkfaaGreatCSplit
set_option linter.unusedVariables false
set_option linter.unusedSimpArgs false
set_option maxRecDepth 100000
namespace Go.Am
open Go.Proofs
/-- What grows can be cut. -/
theorem Grow.cutP {P : Program} {lim : Nat} {h : AH} {elem : TypeId} {sz : Nat} {p : Option Addr} {n c : Nat} {cs : List Value} (g : Grow lim h elem sz p n c cs) (hn : n < openCap) : CutP P h elem p n c := by
  rcases g.2 with ⟨h1, h2, h3⟩ | ⟨b, h1, -, -, h4, h5⟩
  · exact .inl ⟨h1, h2, by omega⟩
  · refine .inr ⟨b, 0, h1, ?_⟩
    rcases h5 with h5 | h5
    · exact .inr ⟨h5, _, _, _, h4, rfl⟩
    · exact .inl ⟨by omega, by omega⟩
theorem deB_one (x : Nat) : deB [x] = x := by simp [deB]
theorem deB_two (x y : Nat) : deB [x, y] = x + 256 * y := by simp [deB]
section
variable {K : Xs} {h : AH}
theorem number02 (hk : K 30 = none) (n w : Nat) (hn : n < 18446744073709551616) (hw : w ≤ 8) :
    Wf Tryz.prog K 30 [.int .u64 (n : Int), .int .i64 (w : Int)] h fun v h' => (∃ p c, v = .tuple #[.slice p w c, .bool (decide (n / 256 ^ w = 0))] ∧ Grow h.next h' 5 1 p w c (natC .u8 (byB w n))) ∧ Old h h' := by
  refine vc_aquiferref02_Number hk _ _ h _ fun g0 e0 => ?_
  have o0 := old_of_alloc e0
  refine ⟨fun i5 p6 n7 c8 i9 k g => ∃ j : Nat, i9 = j ∧ i5 = ((n / 256 ^ j : Nat) : Int) ∧ j ≤ w ∧ w - j = k ∧ n7 = j ∧ Grow h.next g 5 1 p6 n7 c8 (natC .u8 (byB j n)) ∧ Old h g, ⟨_, 0, rfl, by simp, Nat.zero_le _, rfl, rfl, Grow.lit e0 rfl (Nat.le_refl _), o0⟩, ?_⟩
  rintro k2 g3 i5 p6 n7 c8 i9 ⟨j, rfl, rfl, hj, rfl, rfl, G, o3⟩
  have hq : n / 256 ^ n7 < 18446744073709551616 := Nat.lt_of_le_of_lt (Nat.div_le_self _ _) hn
  refine ⟨fun z => ⟨by decide, fun i10 e10 i11 e11 g12 e12 => ?_⟩, fun z => ?_⟩
  · rw [show (256 : Int) = ((256 : Nat) : Int) from rfl, tmodN] at e10
    subst e10
    rw [wrapN_u8, Nat.mod_mod] at e11
    subst e11
    obtain ⟨p13, c15, g16, k16, G16, o16, -, -⟩ := G.push eU8 o3.1 (m := 1) (ns := [.int .u8 ((n / 256 ^ n7 % 256 : Nat) : Int)]) e12 rfl (by have : roomMax = 140737488355328 := rfl; omega) (by omega)
    refine ⟨p13, _, c15, g16, k16, by decide, fun i17 e17 i18 e18 => ?_⟩
    rw [show (256 : Int) = ((256 : Nat) : Int) from rfl, tdivN] at e17
    have e17 : i17 = ((n / 256 ^ n7 / 256 : Nat) : Int) := by
      generalize n / 256 ^ n7 = q at e17 hq ⊢
      exact u64w e17 (by omega) (by omega)
    have e18 := i64w e18 (by omega) (by omega)
    refine ⟨_, by omega, n7 + 1, by rw [e18]; rfl, by rw [e17, Nat.div_div_eq_div_mul, Nat.pow_succ], by omega, rfl, rfl, ?_, ⟨Nat.le_trans o3.1 o16.1, fun b hb => by rw [o16.2 b hb, o3.2 b hb]⟩⟩
    rw [byB_succ, natC_app]
    exact G16
  · obtain rfl : n7 = w := by omega
    refine ⟨fun q => ⟨⟨p6, c8, ?_, G⟩, o3⟩, fun q => ⟨⟨p6, c8, ?_, G⟩, o3⟩⟩
    · rw [decide_eq_true (show n / 256 ^ n7 = 0 by omega)]
    · rw [decide_eq_false (show ¬ n / 256 ^ n7 = 0 by omega)]
theorem value02 (hk : K 28 = none) {p : Option Addr} {n c : Nat} {data : List Nat} (S : Shows h p n 1 (natC .u8 data)) (hd : ∀ x ∈ data, x < 256) (h8 : data.length ≤ 8) :
    Wf Tryz.prog K 28 [.slice p n c] h fun v h' => v = .int .u64 (deB data : Nat) ∧ h = h' := by
  have hn : n = data.length := by have := S.1; rw [natC_len] at this; omega
  subst hn
  refine vc_aquiferref02_Value hk _ _ _ h _ fun i0 e0 => ?_
  have e0 := i64w e0 (by omega) (by omega)
  refine ⟨fun i5 i6 k g => ∃ m : Nat, i6 = (m : Int) - 1 ∧ m ≤ data.length ∧ m = k ∧ i5 = ((deB (data.drop m) : Nat) : Int) ∧ h = g, ⟨_, data.length, e0, Nat.le_refl _, rfl, by simp [deB], rfl⟩, ?_⟩
  rintro k2 g3 i5 i6 ⟨m, rfl, hm, rfl, rfl, rfl⟩
  refine ⟨fun z i7 e7 => ?_, fun z => ?_⟩
  · have hml : m - 1 < data.length := by omega
    obtain ⟨b, off, rfl, hld⟩ := S.get (i := m - 1) hml
    rw [natC_get hml] at hld
    have ed : data.drop (m - 1) = data[m - 1] :: data.drop m := by rw [List.drop_eq_getElem_cons hml, show m - 1 + 1 = m by omega]
    have hx := hd _ (List.getElem_mem hml)
    have hlt := deB_lt (data.drop (m - 1)) fun x hx => hd x (List.mem_of_mem_drop hx)
    have hp := pow256_le (t := (data.drop (m - 1)).length) (by rw [List.length_drop]; omega)
    have hv : deB (data.drop (m - 1)) = data[m - 1] + 256 * deB (data.drop m) := by rw [ed]; rfl
    generalize deB (data.drop m) = A at *
    generalize hB : deB (data.drop (m - 1)) = B at *
    generalize data[m - 1] = x at *
    have e7 := u64w e7 (by omega) (by omega)
    refine derefP_at ⟨by omega, by omega, _, by rw [show ((m : Int) - 1).toNat = m - 1 by omega, Nat.mul_one]; exact hld, fun i11 e11 i12 e12 i13 e13 => ?_⟩
    have e11 := u64w e11 (by omega) (by omega)
    have e12 := u64w e12 (by omega) (by omega)
    have e13 := i64w e13 (by omega) (by omega)
    exact ⟨m - 1, by omega, m - 1, by omega, by omega, rfl, by omega, rfl⟩
  · obtain rfl : m = 0 := by omega
    exact ⟨rfl, rfl⟩
theorem join02 (hk : K 18 = none) (hN : K 30 = none) {p : Option Addr} {n c : Nat} {ts : List Bs} (T : Rows h p n ts) (hl : ts.length ≤ 65535) (ht : ∀ t ∈ ts, t.length ≤ 65535) :
    Wf Tryz.prog K 18 [.slice p n c] h fun v h' => (∃ p' c', v = .tuple #[.slice p' (joinB ts).length c', .int .i64 0] ∧ Grow h.next h' 5 1 p' (joinB ts).length c' (natC .u8 (joinB ts))) ∧ Old h h' := by
  obtain rfl : n = ts.length := T.1
  have sz := sizeB_le ht
  have hrm : roomMax = 140737488355328 := rfl
  refine vc_aquiferref02_Join hk _ _ _ h _ ⟨fun z => absurd z (by omega), fun _ i0 e0 => ?_⟩
  have e0 := u64w e0 (by omega) (by omega)
  subst e0
  refine (number02 hN ts.length 2 (by omega) (by decide)).mono ?_
  rintro _ g2 ⟨⟨p3, c5, rfl, G2⟩, o2⟩
  refine ⟨p3, 2, c5, .inl ⟨by rw [decide_eq_true (show ts.length / 256 ^ 2 = 0 from Nat.div_eq_of_lt (by omega))], fun p10 n11 c12 i13 k g => ∃ j : Nat, i13 = j ∧ j ≤ ts.length ∧ ts.length - j = k ∧ Old h g ∧ Grow h.next g 5 1 p10 n11 c12 (natC .u8 (byB 2 ts.length ++ flatB (ts.take j))),
    ⟨_, 0, rfl, Nat.zero_le _, rfl, o2, by simpa [flatB] using G2⟩, ?_⟩⟩
  rintro k7 g8 p10 n11 c12 i13 ⟨j, rfl, hj, rfl, o8, G8⟩
  have sj := sizeB_take ts j
  have hn11 : n11 = 2 + sizeB (ts.take j) := by have := G8.1; rw [natC_len, List.length_append, byB_len, flatB_size] at this; omega
  refine ⟨fun z => ?_, fun z => ?_⟩
  · have hj' : j < ts.length := by omega
    obtain ⟨b, off, rfl, _, p', n', c', hld, tx⟩ := T.at hj'
    have hbl : b < h.next := by
      rcases T.2 with ⟨cells, S, -⟩
      rcases S.2 with q | ⟨b5, off5, al, e5, ro, hp5, hb5, -⟩
      · omega
      · cases hp5; exact hb5
    have hld8 : ld1 g8 b (off + j) = some (.slice p' n' c') := by rw [← hld]; unfold ld1; rw [o8.2 b hbl]
    have hlen := ht _ (List.getElem_mem hj')
    have hn := tx.2.1
    have e1 : flatB (ts.take (j + 1)) = flatB (ts.take j) ++ (byB 2 ts[j].length ++ ts[j]) := by rw [rows_take hj', flatB_app, flatB_one]
    have s1 : sizeB (ts.take (j + 1)) = sizeB (ts.take j) + (2 + ts[j].length) := by rw [rows_take hj', sizeB_app]; simp [sizeB]
    have sj1 := sizeB_take ts (j + 1)
    refine derefP_at ⟨by omega, z, p', n', c', by rw [Int.toNat_natCast, Nat.mul_one]; exact hld8, fun y => absurd y (by omega), fun _ i19 e19 => ?_⟩
    have e19 := u64w e19 (by omega) (by omega)
    subst e19
    refine (number02 hN n' 2 (by omega) (by decide)).mono ?_
    rintro _ g21 ⟨⟨p22, c24, rfl, G21⟩, o21⟩
    have o21' := o8.trans o21
    obtain ⟨p25, c27, g28, k28, G28, o28, -, -⟩ := (G8.old o21).append eU8 (by have := o21'.1; omega) (x := .slice p22 2 c24) (m := 2) rfl (G21.shows.firstC G21.form) (by rw [natC_len, byB_len]) (by omega) (by omega) ⟨_, eU8.1⟩
    have o28' : Old h g28 := ⟨Nat.le_trans o21'.1 o28.1, fun b hb => by rw [o28.2 b hb, o21'.2 b hb]⟩
    have tx28 := tx.old o28'
    obtain ⟨p29, c31, g32, k32, G32, o32, -, -⟩ := G28.append eU8 (by have := o28'.1; omega) (x := .slice p' n' c') (m := n') rfl (tx28.2.2.2.1.firstC tx28.1) tx28.2.2.2.1.1 (by omega) (by omega) ⟨_, eU8.1⟩
    refine ⟨p22, 2, c24, .inl ⟨by rw [decide_eq_true (show n' / 256 ^ 2 = 0 from Nat.div_eq_of_lt (by omega))], _, _, _, g28, k28, _, _, _, g32, k32, fun i33 e33 => ?_⟩⟩
    have e33 := i64w e33 (by omega) (by omega)
    refine ⟨_, by omega, j + 1, by rw [e33]; rfl, hj', rfl, ⟨Nat.le_trans o28'.1 o32.1, fun b hb => by rw [o32.2 b hb, o28'.2 b hb]⟩, ?_⟩
    rw [e1, ← hn, ← List.append_assoc, ← List.append_assoc, natC_app, natC_app]
    exact G32
  · obtain rfl : j = ts.length := by omega
    rw [List.take_length] at G8
    have hj2 : (joinB ts).length = n11 := by have := G8.1; rw [natC_len] at this; simp only [joinB]; omega
    rw [← hj2] at G8 ⊢
    exact ⟨⟨p10, c12, rfl, G8⟩, o8⟩
theorem split02 (hk : K 27 = none) (hV : K 28 = none) {p : Option Addr} {n c : Nat} {data : List Nat} (T : Text h p n data) (C : CutP Tryz.prog h 5 p n c) (hb : ∀ a, p = some a → a.block < h.next) :
    Wf Tryz.prog K 27 [.slice p n c] h fun v h' => SplitQ h.next (splitB data) v h' ∧ Old h h' := by
  obtain ⟨pf, rfl, hmax, S, hd⟩ := T
  have hrm : roomMax = 140737488355328 := rfl
  have hre : reachBytes = 140737488351232 := rfl
  refine vc_aquiferref02_Split hk _ _ _ h _ ⟨fun z => ?_, fun z g0 e0 => ?_⟩
  · refine ⟨?_, Old.refl _⟩
    match data, z with
    | [], _ => rfl
    | [_], _ => rfl
    | _ :: _ :: _, z => simp at z; omega
  match data, S, hd, hmax, z with
  | [], S, hd, hmax, z => simp at z
  | [_], S, hd, hmax, z => simp at z
  | x :: y :: r0, S, hd, hmax, z =>
    generalize hD : x :: y :: r0 = data at *
    have hdl : 2 ≤ data.length := by rw [← hD]; simp
    have hx := hd x (by rw [← hD]; simp)
    have hy := hd y (by rw [← hD]; simp)
    have o0 := old_of_alloc e0
    obtain ⟨p1, c3, k1, hp1, hpn1, C1⟩ := cutP eU8 (by simp) (C.old o0 hb) none (some 2) (by simp [endN]) (by simpa [endN] using hdl)
    have S1 := (S.old o0).cut2 (lo := 0) (hi := 2) (by omega) hdl (p' := p1) (fun b off z => by simpa [endN] using hp1 b off z)
    rw [natC_drop, natC_take, Nat.zero_mul, List.drop_zero, Nat.sub_zero, Nat.mul_one, show data.take 2 = [x, y] by rw [← hD]; rfl] at S1
    refine ⟨p1, 2, c3, by simpa [endN, endV] using k1, (value02 hV S1 (by simp; omega) (by simp)).mono ?_⟩
    rintro _ _ ⟨rfl, rfl⟩
    rw [deB_two]
    refine ⟨_, rfl, fun i7 e7 => ?_⟩
    have e7 := i64w e7 (by omega) (by omega)
    subst e7
    have hsp : splitB data = parse (x + 256 * y) (data.drop 2) := by rw [← hD]; rfl
    refine ⟨fun p12 n13 c14 i15 i16 k g => ∃ (done : List Bs) (at' : Nat), i15 = at' ∧ i16 = ((x + 256 * y - done.length : Nat) : Int) ∧ done.length ≤ x + 256 * y ∧ x + 256 * y - done.length = k ∧ at' ≤ data.length ∧
        splitB data = (parse (x + 256 * y - done.length) (data.drop at')).map (done ++ ·) ∧ RowsG h.next g p12 n13 c14 done ∧ Old h g,
      ⟨_, [], 2, rfl, by simp, Nat.zero_le _, rfl, hdl, by rw [hsp]; simp, RowsG.lit e0 (Nat.le_refl _), o0⟩, ?_⟩
    rintro k9 g10 p12 n13 c14 i15 i16 ⟨done, at', rfl, rfl, hdn, rfl, hat, hsplit, RG, o10⟩
    refine ⟨fun z i17 e17 => ?_, fun z => ?_⟩
    · have e17 := i64w e17 (by omega) (by omega)
      subst e17
      obtain ⟨k', hk'⟩ : ∃ k', x + 256 * y - done.length = k' + 1 := ⟨x + 256 * y - done.length - 1, by omega⟩
      refine ⟨fun q => ⟨?_, o10⟩, fun q i18 e18 => ?_⟩
      · rw [hsplit, hk', parse_bad (by rw [List.length_drop]; omega)]
        rfl
      have e18 := i64w e18 (by omega) (by omega)
      have e18 : i18 = ((at' + 2 : Nat) : Int) := by omega
      subst e18
      obtain ⟨x', y', r', hr'⟩ : ∃ x' y' r', data.drop at' = x' :: y' :: r' := by
        have hl : 2 ≤ (data.drop at').length := by rw [List.length_drop]; omega
        match data.drop at', hl with
        | x' :: y' :: r', _ => exact ⟨x', y', r', rfl⟩
      have hx' : x' < 256 := hd x' (List.mem_of_mem_drop (i := at') (by rw [hr']; simp))
      have hy' : y' < 256 := hd y' (List.mem_of_mem_drop (i := at') (by rw [hr']; simp))
      have hrl : r'.length + 2 = data.length - at' := by rw [← List.length_drop, hr']; simp
      obtain ⟨p19, c21, k21, hp19, hpn19, C19⟩ := cutP eU8 (by simp) (C.old o10 hb) (some at') (some (at' + 2)) (by simp [endN]) (by simp [endN]; omega)
      have S19 := (S.old o10).cut2 (lo := at') (hi := at' + 2) (by omega) (by omega) (p' := p19) (fun b off z => by simpa [endN] using hp19 b off z)
      rw [natC_drop, natC_take, Nat.mul_one, show (at' + 2 - at') = 2 by omega, Nat.mul_one, hr'] at S19
      refine ⟨p19, 2, c21, by simpa [endN, endV] using k21, (value02 hV (data := [x', y']) (by simpa using S19) (by simp; omega) (by simp)).mono ?_⟩
      rintro _ _ ⟨rfl, rfl⟩
      rw [deB_two]
      refine ⟨_, rfl, fun i25 e25 i26 e26 i27 e27 => ?_⟩
      have e25 := i64w e25 (by omega) (by omega)
      have e26 := i64w e26 (by omega) (by omega)
      subst e25 e26
      have e27 := i64w e27 (by omega) (by omega)
      subst e27
      refine ⟨fun q => ⟨?_, o10⟩, fun q g28 e28 i29 e29 i30 e30 i31 e31 => ?_⟩
      · rw [hsplit, hk', hr', parse_short (by omega)]
        rfl
      have e29 := i64w e29 (by omega) (by omega)
      have e30 := i64w e30 (by omega) (by omega)
      subst e30
      have e31 := i64w e31 (by omega) (by omega)
      have e29 : i29 = ((at' + 2 : Nat) : Int) := by omega
      have e31 : i31 = ((at' + 2 + (x' + 256 * y') : Nat) : Int) := by omega
      subst e29 e31
      have o28 := o10.trans (old_of_alloc e28)
      have n28 := next_of_alloc e28
      obtain ⟨p32, c34, k34, hp32, hpn32, C32⟩ := cutP eU8 (by simp) (C.old o28 hb) (some (at' + 2)) (some (at' + 2 + (x' + 256 * y'))) (by simp [endN]) (by simp [endN]; omega)
      have S32 := (S.old o28).cut2 (lo := at' + 2) (hi := at' + 2 + (x' + 256 * y')) (by omega) (by omega) (p' := p32) (fun b off z => by simpa [endN] using hp32 b off z)
      have hm : at' + 2 + (x' + 256 * y') - (at' + 2) = x' + 256 * y' := by omega
      have hdd : data.drop (at' + 2) = r' := by rw [← List.drop_drop, hr']; rfl
      rw [natC_drop, natC_take, Nat.mul_one, hm, Nat.mul_one, hdd] at S32
      have pf32 : p32 = none ∨ ∃ b off, p32 = some ⟨b, off, none⟩ := by
        rcases pf with rfl | ⟨b, off, rfl⟩
        · exact .inl (hpn32 rfl)
        · obtain ⟨o', h1, -⟩ := hp32 b off rfl
          exact .inr ⟨b, o', h1⟩
      have G28 : Grow g10.next g28 5 1 (some ⟨g10.next, 0, none⟩) 0 0 [] := Grow.lit e28 rfl (Nat.le_refl _)
      obtain ⟨p35, c37, g38, k38, G38, o38, f38, -⟩ := G28.append eU8 (by omega) (x := .slice p32 (x' + 256 * y') c34) (m := x' + 256 * y') rfl (S32.firstC pf32) S32.1 (by omega) (by omega) ⟨_, eU8.1⟩
      rw [List.nil_append, Nat.zero_add] at G38
      have o38' : Old g10 g38 := ⟨by have := o38.1; omega, fun b hb => by rw [o38.2 b hb, (old_of_alloc e28).2 b hb]⟩
      refine ⟨p32, _, c34, by simpa [endN, endV, hm] using k34, p35, _, c37, g38, by simpa [hm] using k38, fun g39 e39 => ?_⟩
      have RG38 := RG.old o38'
      have T38 : Text g38 p35 (x' + 256 * y') (r'.take (x' + 256 * y')) := ⟨G38.form, by rw [List.length_take]; omega, by omega, G38.shows, fun z hz => hd z (List.mem_of_mem_drop (i := at' + 2) (by rw [hdd]; exact List.mem_of_mem_take hz))⟩
      have hap : ∀ a, p35 = some a → h.next ≤ a.block ∧ a.block < g38.next ∧ apart p12 a.block := fun a ha => by
        obtain ⟨q1, q2⟩ := G38.block ha
        refine ⟨by have := o10.1; omega, q2, ?_⟩
        obtain ⟨-, cells, G, -⟩ := RG
        rcases G.2 with ⟨rfl, -⟩ | ⟨b, rfl, q3, q4, -⟩
        · exact trivial
        · show b ≠ a.block; omega
      obtain ⟨p40, c42, g43, k43, RG43, o43, f43⟩ := RG38.push (by have := o10.1; have := o38'.1; omega) T38 (G38.cutP (by simp only [openCap]; omega)) hap e39 (by omega)
      refine ⟨p40, _, c42, g43, by simpa [hm] using k43, fun i44 e44 i45 e45 i46 e46 => ?_⟩
      have e44 := i64w e44 (by omega) (by omega)
      subst e44
      have e45 := i64w e45 (by omega) (by omega)
      have e46 := i64w e46 (by omega) (by omega)
      have o43' : Old h g43 := ⟨by have := o10.1; have := o38'.1; have := o43.1; omega, fun b hb => by rw [o43.2 b hb, o38'.2 b (by have := o10.1; omega), o10.2 b hb]⟩
      refine ⟨k', by omega, done ++ [r'.take (x' + 256 * y')], at' + 2 + (x' + 256 * y'), by omega, by simp; omega, by simp; omega, by simp; omega, by omega, ?_, RG43, o43'⟩
      have hd2 : data.drop (at' + 2 + (x' + 256 * y')) = r'.drop (x' + 256 * y') := by rw [← hdd, List.drop_drop]
      rw [hsplit, hk', hr', parse_step (by omega), Option.map_map, hd2, show x + 256 * y - (done ++ [r'.take (x' + 256 * y')]).length = k' by simp; omega]
      congr 1
      funext us
      simp
    · have hde : x + 256 * y - done.length = 0 := by omega
      rw [hde] at hsplit
      refine ⟨fun q => ⟨?_, o10⟩, fun q => ⟨?_, o10⟩⟩
      · rw [hsplit, List.drop_eq_nil_of_le (by omega)]
        have hn13 : n13 = done.length := RG.1
        subst hn13
        show SplitQ h.next (some (done ++ [])) _ g10
        rw [List.append_nil]
        exact ⟨_, _, rfl, RG⟩
      · rw [hsplit, parse_end (by rw [List.length_drop]; omega)]
        rfl
end
end Go.Am
