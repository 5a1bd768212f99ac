/-
  SCRIPTS AS BYTES, as the document says; scripts that are the same; copies.
-/
import Derived.Test.YtbadadkkpihkfaaGreatCScrC2
set_option linter.unusedVariables false
set_option linter.unusedSimpArgs false
set_option maxRecDepth 100000
namespace Go.Am
open Go.Proofs
structure KScr23 (K : Xs) : Prop where
  number : K 30 = none
  join : K 18 = none
  has : K 33 = none
  right1 : K 21 = none
  right : K 11 = none
  bytes : K 8 = none
  same1 : K 22 = none
  same : K 12 = none
  copy : K 6 = none
theorem tmodI {a : Int} (h : 0 ≤ a) : Int.tmod a 256 = ((a.toNat % 256 : Nat) : Int) := by
  rw [Int.tmod_eq_emod_of_nonneg h]; omega
theorem tdivI {a : Int} (h : 0 ≤ a) : Int.tdiv a 256 = ((a.toNat / 256 : Nat) : Int) := by
  rw [Int.tdiv_eq_ediv_of_nonneg h]; omega
theorem natC_three (a b c : Nat) : natC .u8 [a, b, c] = [.int .u8 (a : Int), .int .u8 (b : Int), .int .u8 (c : Int)] := rfl
section
variable {K : Xs} {h : AH}
theorem bytes23Spec (kk : KScr23 K) {s : ScrP} {p : Option Addr} {n c : Nat} (T : Ops h p n s.ops) :
    Wf Tryz.prog K 8 [.agg #[.int .i64 s.secs, .slice p n c]] h fun v h' => BytesQ h.next s v h' ∧ Old h h' := by
  have hn := T.2.1
  have hr := T.2.2.1
  have hre : reachBytes = 140737488351232 := rfl
  have hrm : roomMax = 140737488355328 := rfl
  refine vc_aquiferref23_Bytes kk.bytes _ _ _ _ h _ fun g0 e0 => ?_
  have n0 := next_of_alloc e0
  have o0 := old_of_alloc e0
  refine ⟨_, _, _, _, ldN_all (get_of_alloc e0) rfl, (scrRight23 kk.right kk.right1 kk.has (c := c) (T.old o0)).mono ?_⟩
  rintro _ g6 ⟨⟨rfl, k⟩ | ⟨rfl, k⟩, o6⟩
  rotate_left
  · exact .inr ⟨rfl, .inr ⟨k, rfl⟩, o0.trans o6⟩
  have oh6 := o0.trans o6
  have k1 := k.lo
  have k2 := k.hi
  have k3 := k.len
  have c6 : ∀ {g : AH}, Old g6 g → g.get h.next = some (.cells [.int .i64 s.secs, .slice p n c] 24 false) := fun o => ((o6.trans o).2 _ (by omega)).trans (get_of_alloc e0)
  refine .inl ⟨rfl, _, ld1_at (c6 (Old.refl _)) rfl, by decide, fun i8 e8 i9 e9 => ⟨_, ld1_at (c6 (Old.refl _)) rfl, by decide, fun i11 e11 i12 e12 g13 e13 g14 e14 => ?_⟩⟩
  rw [tmodI (by omega)] at e8
  rw [tdivI (by omega)] at e11
  have e11 := i64w e11 (by omega) (by omega)
  subst e8 e11
  rw [wrapN_u8, Nat.mod_mod] at e9
  rw [wrapN_u8] at e12
  subst e9 e12
  have e13 : g13 = g6.alloc (.cells (natC .u8 (byB 2 s.secs.toNat)) 5 false) := by rw [byB2, natC_two]; exact e13
  have T13 := text_new (c := 2) e13 (by rw [byB_len]; decide) (fun x hx => byB_lt hx) (.inr ⟨by rw [byB_len]; decide, by decide⟩)
  rw [byB_len] at T13
  have o14 := (old_of_alloc e13).trans (old_of_alloc e14)
  refine ⟨_, _, _, ld1_at (c6 o14) rfl, fun p22 n23 c24 i25 k g => ∃ j : Nat, i25 = j ∧ j ≤ n ∧ n - j = k ∧ RowsG g6.next g p22 n23 c24 (byB 2 s.secs.toNat :: (s.ops.take j).map opB) ∧ Old g6 g, ⟨_, 0, rfl, Nat.zero_le _, rfl, RowsG.one e14 (old_of_alloc e13).1 T13, o14⟩, ?_⟩
  rintro k19 g20 p22 n23 c24 i25 ⟨j, rfl, hj, rfl, RG, o20⟩
  have oh20 := oh6.trans o20
  refine ⟨fun z => ?_, fun z => ?_⟩
  · have hjn : j < n := by omega
    have hjl : j < s.ops.length := by omega
    obtain ⟨b, off, rfl, hj', pd, nd, cd, pk, nk, ck, hld, -, -, -, -, -, -, td, tk, s1, s2, -⟩ := (T.old oh20).at hjn
    have hA := (k.ops _ (List.getElem_mem hjl)).a
    have hD := T.bytes _ (List.getElem_mem hjl)
    have hmp := take_map_succ hjl
    generalize s.ops[j] = o at *
    have hA' := hA
    obtain ⟨⟨a1, a2⟩, a3, a4, a5, a6, a7, ⟨a8, a9⟩, a10, a11, a12, a13⟩ := hA'
    refine derefP_at ⟨by omega, z, _, _, _, _, _, _, _, _, _, _, hld, fun g38 e38 => ?_⟩
    obtain ⟨g39, k39, n39, o39, v39⟩ := put_new e38 (vs := [.int .i64 o.kind, .string o.name, .string o.to, .int .i64 o.n, .slice pd nd cd, .slice pk nk ck]) rfl
    have w39 := (v39 [] (fun c hc => by cases hc)).1
    have oh39 := o20.trans o39
    have nk1 := tk.2.1
    have m : ∀ {g : AH}, Old g39 g → ∀ (j : Nat) v, ([.int .i64 o.kind, .string o.name, .string o.to, .int .i64 o.n, .slice pd nd cd, .slice pk nk ck] : List Value)[j]? = some v → ld1 g g20.next j = some v := fun oo j v hv => ld1_at ((oo.2 _ (by omega)).trans w39) hv
    refine ⟨rfl, g39, k39, _, m (Old.refl _) 0 _ rfl, fun i41 e41 => ⟨_, m (Old.refl _) 3 _ rfl, by decide, fun i43 e43 i44 e44 => ⟨_, m (Old.refl _) 3 _ rfl, by decide, fun i46 e46 i47 e47 g48 e48 => ?_⟩⟩⟩
    have o48 := old_of_alloc e48
    have e41 := u8w e41 (by omega) (by omega)
    refine ⟨_, m o48 3 _ rfl, fun y => ⟨_, m o48 0 _ rfl, fun i51 e51 g52 e52 g53 e53 => ?_⟩, fun y g53 e53 => ?_⟩
    · have e51 := u8w e51 (by omega) (by omega)
      have e52 : g52 = g48.alloc (.cells (natC .u8 (headB o)) 5 false) := by
        rw [e52, headB_eq, natC_three, e51]
        have hn1 : nB o.n = 65535 := by unfold nB; rw [if_pos y]
        rw [hn1, show ((o.kind.toNat % 256 : Nat) : Int) = o.kind by omega]
        rfl
      generalize hG : g48.next = fb at *
      have F53 : TextN g6.next g52 (some ⟨fb, 0, none⟩) 3 3 (headB o) := by
        have := text_new (c := 3) e52 (by rw [headB_len]; decide) (fun x hx => enc_lt _ _ hx) (.inr ⟨by rw [headB_len]; decide, by decide⟩)
        rw [headB_len, hG] at this
        exact this.weak (by have := oh39.1; have := o48.1; omega)
      have o52 : Old g39 g52 := o48.trans (old_of_alloc e52)
      have o53 := o52.trans (old_of_alloc e53)
      have hnk : o.keep.length = nk := by omega
      have hkl : (keepB o.keep).length = nk := by rw [keepB_len]; omega
      refine ⟨_, _, _, m o53 5 _ rfl, fun p61 n62 c63 i64 k g => ∃ u : Nat, i64 = u ∧ u ≤ nk ∧ nk - u = k ∧ n62 = u ∧ Grow g52.next g 5 1 p61 n62 c63 (natC .u8 ((keepB o.keep).take u)) ∧ Old g52 g, ⟨_, 0, rfl, Nat.zero_le _, rfl, rfl, Grow.lit e53 rfl (Nat.le_refl _), old_of_alloc e53⟩, ?_⟩
      rintro k58 g59 p61 n62 c63 i64 ⟨u, rfl, hu, rfl, rfl, G59, o59⟩
      have o3959 := o52.trans o59
      have oh59 := oh39.trans o3959
      refine ⟨fun y => ?_, fun y => ?_⟩
      · have hu' : n62 < nk := by omega
        obtain ⟨bk, offk, rfl, hjk, hlk⟩ := ((tk.old o39).old o3959).at hu'
        have hka := keepB_at hjk (by omega)
        have htk : (keepB o.keep).take (n62 + 1) = (keepB o.keep).take n62 ++ [(keepB o.keep)[n62]'(by omega)] := List.take_succ_eq_append_getElem (by omega)
        rw [hka] at htk
        refine derefP_at ⟨by omega, y, orB (by rw [Int.toNat_natCast, Nat.mul_one]; exact hlk) (fun hb g67 e67 => ?_) fun hb g67 e67 => ?_⟩
        · obtain ⟨p68, c70, g71, k71, G71, o71, -, -⟩ := G59.push eU8 o59.1 (m := 1) (ns := natC .u8 [1]) e67 rfl (by omega) (by omega)
          refine ⟨p68, _, c70, g71, k71, fun i72 e72 => ?_⟩
          have e72 := i64w e72 (by omega) (by omega)
          refine ⟨_, by omega, n62 + 1, by rw [e72]; rfl, hu', rfl, rfl, ?_, ⟨Nat.le_trans o59.1 o71.1, fun b hb => by rw [o71.2 b hb, o59.2 b hb]⟩⟩
          rw [htk, hb, if_pos rfl, natC_app]
          exact G71
        · obtain ⟨p68, c70, g71, k71, G71, o71, -, -⟩ := G59.push eU8 o59.1 (m := 1) (ns := natC .u8 [0]) e67 rfl (by omega) (by omega)
          refine ⟨p68, _, c70, g71, k71, fun i72 e72 => ?_⟩
          have e72 := i64w e72 (by omega) (by omega)
          refine ⟨_, by omega, n62 + 1, by rw [e72]; rfl, hu', rfl, rfl, ?_, ⟨Nat.le_trans o59.1 o71.1, fun b hb => by rw [o71.2 b hb, o59.2 b hb]⟩⟩
          rw [htk, hb, if_neg (by decide), natC_app]
          exact G71
      · obtain rfl : n62 = nk := by omega
        rw [List.take_of_length_le (by omega)] at G59
        refine ⟨_, m o3959 1 _ rfl, _, _, _, _, convBs s1, _, m (o3959.trans (Old_alloc _ _)) 2 _ rfl, _, _, _, _, convBs s2, _, _, _, m ((o3959.trans (Old_alloc _ _)).trans (Old_alloc _ _)) 4 _ rfl, fun g92 e92 => ?_⟩
        generalize e83 : g59.alloc _ = g83 at *
        generalize e88 : g83.alloc _ = g88 at *
        have o83 := old_of_alloc e83.symm
        have o88 := old_of_alloc e88.symm
        have o92 := old_of_alloc e92
        have K59 := grow_text G59 (by omega) (fun x hx => by have := keepB_le hx; omega)
        have N83 := text_new (c := openCap) e83.symm (by rw [strB_len]; exact s1) (fun x hx => strB_lt hx) (.inl rfl)
        have N88 := text_new (c := openCap) e88.symm (by rw [strB_len]; exact s2) (fun x hx => strB_lt hx) (.inl rfl)
        rw [strB_len] at N83 N88
        have R92 := rows_new e92 (ts := opTs o) rfl (five_rows ((F53.1.old o59).old (o83.trans o88)) (N83.1.old o88) N88.1 (((td.old o39).old o3959).old (o83.trans o88)) (K59.1.old (o83.trans o88)))
        have hol := opB_len hA.ok
        refine (join02 kk.join kk.number R92 (by simp [opTs]) (fun t ht => by have := opTs_lt hA.ok t ht; omega)).mono ?_
        rintro _ g94 ⟨⟨p95, c97, rfl, G94⟩, o94⟩
        have oh94 := (((oh59.trans o83).trans o88).trans o92).trans o94
        have o2094 : Old g20 g94 := ((((o39.trans o3959).trans o83).trans o88).trans o92).trans o94
        have T94 : TextN g92.next g94 p95 (opB o).length c97 (opB o) := grow_text G94 (by show (opB o).length ≤ _; omega) (opB_lt hD)
        refine ⟨_, _, _, _, rfl, fun g99 e99 => ?_⟩
        have l92 : g20.next ≤ g92.next := ((((o39.trans o3959).trans o83).trans o88).trans o92).1
        have RG94 := RG.old o2094
        have hap : ∀ a, p95 = some a → g6.next ≤ a.block ∧ a.block < g94.next ∧ apart p22 a.block := fun a ha => by
          obtain ⟨q1, q2⟩ := T94.2.2 a ha
          refine ⟨by have := o20.1; omega, q2, ?_⟩
          obtain ⟨-, cells, G, -⟩ := RG
          rcases G.2 with ⟨rfl, -⟩ | ⟨b, rfl, q3, q4, -⟩
          · exact trivial
          · show b ≠ a.block; omega
        obtain ⟨p100, c102, g103, k103, RG103, o103, f103⟩ := RG94.push oh94.1 T94.1 T94.2.1 hap e99 (by simp; omega)
        refine ⟨p100, _, c102, g103, k103, fun i104 e104 => ?_⟩
        have e104 := i64w e104 (by omega) (by omega)
        refine ⟨_, by omega, j + 1, by rw [e104]; rfl, hjn, rfl, by rw [hmp]; exact RG103, ⟨by have := oh94.1; have := o103.1; omega, fun b hb => by rw [o103.2 b hb, oh94.2 b hb]⟩⟩
    · have e52 : g48 = g39.alloc (.cells (natC .u8 (headB o)) 5 false) := by
        rw [tmodI (by omega)] at e43
        rw [tdivI (by omega)] at e46
        have e46 := i64w e46 (by omega) (by omega)
        subst e43 e46
        rw [wrapN_u8, Nat.mod_mod] at e44
        rw [wrapN_u8] at e47
        rw [e48, headB_eq, natC_three, e41, e44, e47]
        have hn1 : nB o.n = o.n.toNat := by unfold nB; rw [if_neg y]
        rw [hn1, show ((o.kind.toNat % 256 : Nat) : Int) = o.kind by omega]
      generalize hG : g39.next = fb at *
      generalize g48 = g52 at *
      have F53 : TextN g6.next g52 (some ⟨fb, 0, none⟩) 3 3 (headB o) := by
        have := text_new (c := 3) e52 (by rw [headB_len]; decide) (fun x hx => enc_lt _ _ hx) (.inr ⟨by rw [headB_len]; decide, by decide⟩)
        rw [headB_len, hG] at this
        exact this.weak (by have := oh39.1; omega)
      have o52 : Old g39 g52 := o48
      have o53 := o52.trans (old_of_alloc e53)
      have hnk : o.keep.length = nk := by omega
      have hkl : (keepB o.keep).length = nk := by rw [keepB_len]; omega
      refine ⟨_, _, _, m o53 5 _ rfl, fun p61 n62 c63 i64 k g => ∃ u : Nat, i64 = u ∧ u ≤ nk ∧ nk - u = k ∧ n62 = u ∧ Grow g52.next g 5 1 p61 n62 c63 (natC .u8 ((keepB o.keep).take u)) ∧ Old g52 g, ⟨_, 0, rfl, Nat.zero_le _, rfl, rfl, Grow.lit e53 rfl (Nat.le_refl _), old_of_alloc e53⟩, ?_⟩
      rintro k58 g59 p61 n62 c63 i64 ⟨u, rfl, hu, rfl, rfl, G59, o59⟩
      have o3959 := o52.trans o59
      have oh59 := oh39.trans o3959
      refine ⟨fun y => ?_, fun y => ?_⟩
      · have hu' : n62 < nk := by omega
        obtain ⟨bk, offk, rfl, hjk, hlk⟩ := ((tk.old o39).old o3959).at hu'
        have hka := keepB_at hjk (by omega)
        have htk : (keepB o.keep).take (n62 + 1) = (keepB o.keep).take n62 ++ [(keepB o.keep)[n62]'(by omega)] := List.take_succ_eq_append_getElem (by omega)
        rw [hka] at htk
        refine derefP_at ⟨by omega, y, orB (by rw [Int.toNat_natCast, Nat.mul_one]; exact hlk) (fun hb g67 e67 => ?_) fun hb g67 e67 => ?_⟩
        · obtain ⟨p68, c70, g71, k71, G71, o71, -, -⟩ := G59.push eU8 o59.1 (m := 1) (ns := natC .u8 [1]) e67 rfl (by omega) (by omega)
          refine ⟨p68, _, c70, g71, k71, fun i72 e72 => ?_⟩
          have e72 := i64w e72 (by omega) (by omega)
          refine ⟨_, by omega, n62 + 1, by rw [e72]; rfl, hu', rfl, rfl, ?_, ⟨Nat.le_trans o59.1 o71.1, fun b hb => by rw [o71.2 b hb, o59.2 b hb]⟩⟩
          rw [htk, hb, if_pos rfl, natC_app]
          exact G71
        · obtain ⟨p68, c70, g71, k71, G71, o71, -, -⟩ := G59.push eU8 o59.1 (m := 1) (ns := natC .u8 [0]) e67 rfl (by omega) (by omega)
          refine ⟨p68, _, c70, g71, k71, fun i72 e72 => ?_⟩
          have e72 := i64w e72 (by omega) (by omega)
          refine ⟨_, by omega, n62 + 1, by rw [e72]; rfl, hu', rfl, rfl, ?_, ⟨Nat.le_trans o59.1 o71.1, fun b hb => by rw [o71.2 b hb, o59.2 b hb]⟩⟩
          rw [htk, hb, if_neg (by decide), natC_app]
          exact G71
      · obtain rfl : n62 = nk := by omega
        rw [List.take_of_length_le (by omega)] at G59
        refine ⟨_, m o3959 1 _ rfl, _, _, _, _, convBs s1, _, m (o3959.trans (Old_alloc _ _)) 2 _ rfl, _, _, _, _, convBs s2, _, _, _, m ((o3959.trans (Old_alloc _ _)).trans (Old_alloc _ _)) 4 _ rfl, fun g92 e92 => ?_⟩
        generalize e83 : g59.alloc _ = g83 at *
        generalize e88 : g83.alloc _ = g88 at *
        have o83 := old_of_alloc e83.symm
        have o88 := old_of_alloc e88.symm
        have o92 := old_of_alloc e92
        have K59 := grow_text G59 (by omega) (fun x hx => by have := keepB_le hx; omega)
        have N83 := text_new (c := openCap) e83.symm (by rw [strB_len]; exact s1) (fun x hx => strB_lt hx) (.inl rfl)
        have N88 := text_new (c := openCap) e88.symm (by rw [strB_len]; exact s2) (fun x hx => strB_lt hx) (.inl rfl)
        rw [strB_len] at N83 N88
        have R92 := rows_new e92 (ts := opTs o) rfl (five_rows ((F53.1.old o59).old (o83.trans o88)) (N83.1.old o88) N88.1 (((td.old o39).old o3959).old (o83.trans o88)) (K59.1.old (o83.trans o88)))
        have hol := opB_len hA.ok
        refine (join02 kk.join kk.number R92 (by simp [opTs]) (fun t ht => by have := opTs_lt hA.ok t ht; omega)).mono ?_
        rintro _ g94 ⟨⟨p95, c97, rfl, G94⟩, o94⟩
        have oh94 := (((oh59.trans o83).trans o88).trans o92).trans o94
        have o2094 : Old g20 g94 := ((((o39.trans o3959).trans o83).trans o88).trans o92).trans o94
        have T94 : TextN g92.next g94 p95 (opB o).length c97 (opB o) := grow_text G94 (by show (opB o).length ≤ _; omega) (opB_lt hD)
        refine ⟨_, _, _, _, rfl, fun g99 e99 => ?_⟩
        have l92 : g20.next ≤ g92.next := ((((o39.trans o3959).trans o83).trans o88).trans o92).1
        have RG94 := RG.old o2094
        have hap : ∀ a, p95 = some a → g6.next ≤ a.block ∧ a.block < g94.next ∧ apart p22 a.block := fun a ha => by
          obtain ⟨q1, q2⟩ := T94.2.2 a ha
          refine ⟨by have := o20.1; omega, q2, ?_⟩
          obtain ⟨-, cells, G, -⟩ := RG
          rcases G.2 with ⟨rfl, -⟩ | ⟨b, rfl, q3, q4, -⟩
          · exact trivial
          · show b ≠ a.block; omega
        obtain ⟨p100, c102, g103, k103, RG103, o103, f103⟩ := RG94.push oh94.1 T94.1 T94.2.1 hap e99 (by simp; omega)
        refine ⟨p100, _, c102, g103, k103, fun i104 e104 => ?_⟩
        have e104 := i64w e104 (by omega) (by omega)
        refine ⟨_, by omega, j + 1, by rw [e104]; rfl, hjn, rfl, by rw [hmp]; exact RG103, ⟨by have := oh94.1; have := o103.1; omega, fun b hb => by rw [o103.2 b hb, oh94.2 b hb]⟩⟩
  · obtain rfl : j = n := by omega
    rw [List.take_of_length_le (by omega)] at RG
    refine (join02 kk.join kk.number (ts := scrTs s) RG.rows (by simp [scrTs]; omega) (fun t ht => by have := scrTs_lt k t ht; omega)).mono ?_
    rintro _ g47 ⟨⟨p159, c161, rfl, G⟩, o47⟩
    have hol := scrB_len k
    exact ⟨_, _, _, _, rfl, .inl ⟨k, _, _, rfl, (grow_text G (by show (scrB s).length ≤ _; omega) (scrB_lt T.bytes)).weak oh20.1⟩, oh20.trans o47⟩
end
end Go.Am
