/-
  BLOCKS ARE TRIMMED; which blocks there are.
-/
import Derived.Test.YteblpmcekhcgiabCStep
set_option linter.unusedVariables false
set_option linter.unusedSimpArgs false
set_option maxRecDepth 100000
namespace Go.Am
open Go.Proofs
theorem self_ptr : ∀ {qs : List Tr3} {X : Prop}, X → vSelfL (ptr3 qs) X
  | [], _, x => x
  | _ :: qs, _, x => self_ptr (qs := qs) x
section
variable {K : Xs} {h : AH} {p : Nat} {F : List Nat} {d m : Nat} {W : Nat} {nw : List (List Nat)} {M : List Nat} {st : Nat} {ba : Int}
theorem trimTail (kk : KTree K) {g : AH} {F : List Nat} (hF : ∀ c ∈ F, c < g.next) {wb rb tb xb : Nat} {root q2 b q3 : Tr3} {L1 L2 : List Tr3} {z : List Value} (l1 : L1.length = 8) (l2 : L2.length = 8) (kr : QOk root) (k2 : QOk q2) (kb : QOk b) {i : Nat} (hi : i < 64) (h1 : L1[i / 8]? = some q2)
    (w : Mine g F wb (ptr3 (L1 ++ L2 ++ [b])) 106) (r : Mine g F rb [.int .i64 (root.1 : Nat), .int .u64 (root.2.1 : Nat), .int .u32 (root.2.2 : Nat)] 28) (x : Mine g F xb z 28) (hz : z.length = 3)
    (u : Mine g F tb [.int .i64 (q3.1 : Nat), .int .u64 (q3.2.1 : Nat), .int .u32 (q3.2.2 : Nat)] 28) {Q : Value → AH → Prop}
    (hQ : ∀ pr nr cr g80 g87, Old g g80 → Near xb g80 g87 → Grow g.next g80 28 3 pr nr cr (ptr3 (noHoles [b, q2, root])) → Q (.tuple #[qV q3, .slice pr nr cr, .int .i64 0]) g87) :
    ∃ l75 : List Value, ldN g wb 0 51 = some l75 ∧ (∃ i76 : Int, ∃ i77 : Int, ∃ i78 : Int, ldN g rb 0 3 = some ([(.int .i64 i76), (.int .u64 i77), (.int .u32 i78)] : List Value) ∧
      (Wf Try.prog K 61 [(.agg l75.toArray), (.agg #[(.int .i64 i76), (.int .u64 i77), (.int .u32 i78)]), (.int .i64 (i : Nat))] g fun r79 h80 =>
      (∃ (p81 : Option Addr) (n82 c83 : Nat), r79 = (.slice p81 n82 c83) ∧
      (∃ i84 : Int, ∃ i85 : Int, ∃ i86 : Int, ldN h80 tb 0 3 = some ([(.int .i64 i84), (.int .u64 i85), (.int .u32 i86)] : List Value) ∧
      ((List.length ([(.int .i64 i84), (.int .u64 i85), (.int .u32 i86)] : List Value) = 3) ∧ ∃ h87 : AH, stN h80 xb 0 ([(.int .i64 i84), (.int .u64 i85), (.int .u32 i86)] : List Value) = some h87 ∧
      ((ldN g tb 0 3 = some ([(.int .i64 i84), (.int .u64 i85), (.int .u32 i86)] : List Value)) ∧
      ((ldN h80 tb 0 3 = some ([(.int .i64 i84), (.int .u64 i85), (.int .u32 i86)] : List Value)) ∧
      (∃ i88 : Int, ∃ i89 : Int, ∃ i90 : Int, ldN h87 xb 0 3 = some ([(.int .i64 i88), (.int .u64 i89), (.int .u32 i90)] : List Value) ∧
      (Q (.tuple #[(.agg #[(.int .i64 i88), (.int .u64 i89), (.int .u32 i90)]), (.slice p81 n82 c83), (.int .i64 0)]) h87))))))))) := by
  have h51 := way_len (b := b) l1 l2
  refine ⟨_, w.ld h51, _, _, _, r.ld rfl, (treeReplaced kk hF l1 l2 kr k2 kb hi h1).mono ?_⟩
  rintro _ g80 ⟨⟨pr, nr, cr, rfl, G⟩, o80⟩
  obtain ⟨g87, k87, nr87, w87⟩ := (x.old o80).put (vs := [.int .i64 (q3.1 : Nat), .int .u64 (q3.2.1 : Nat), .int .u32 (q3.2.2 : Nat)]) (by rw [hz]; rfl)
  exact ⟨_, _, _, rfl, _, _, _, (u.old o80).ld rfl, rfl, g87, k87, u.ld rfl, (u.old o80).ld rfl, _, _, _, w87.ld rfl, hQ pr nr cr g80 g87 o80 nr87 G⟩
/-- What comes of a trim. -/
abbrev TrimR (h : AH) (p : Nat) (F : List Nat) (d m : Nat) (W : Nat) (nw : List (List Nat)) (M : List Nat) (st : Nat) (ba : Int) (root : Tr3) (L1 : List Tr3) (L2 : Nat → List Tr3) (ii : Int) (v : Value) (h' : AH) : Prop :=

      (∃ e : Int, ((¬ (0 ≤ ii ∧ ii < 64) ∧ e = 111) ∨ (∃ i : Nat, ii = i ∧ i < 64 ∧ (L2 (i / 8))[i % 8]? = some hole ∧ e = 0)) ∧ v = .tuple #[qV root, .slice none 0 0, .int .i64 e] ∧ PO h' p F d m W nw M st ba ∧ Fr F h h' F) ∨
      (∃ (i : Nat) (q2 b q2' q3 : Tr3) (nw1 : List (List Nat)) (M1 : List Nat) (nw2 : List (List Nat)) (M2 F' : List Nat) (W' : Nat) (pr : Option Addr) (nr cr : Nat),
        ii = i ∧ i < 64 ∧ L1[i / 8]? = some q2 ∧ (L2 (i / 8))[i % 8]? = some b ∧ b ≠ hole ∧ v = .tuple #[qV q3, .slice pr nr cr, .int .i64 0] ∧
        PutsO nw M st q2' ((L2 (i / 8)).set (i % 8) hole) nw1 M1 ∧ PutsO nw1 M1 st q3 (L1.set (i / 8) q2') nw2 M2 ∧ W' ≤ W + 2 ∧
        PO h' p F' d m W' nw2 M2 st ba ∧ Fr F h h' F' ∧ Grow h.next h' 28 3 pr nr cr (ptr3 (noHoles [b, q2, root])) ∧ ∀ a, pr = some a → a.block ∉ F')
theorem treeTrim (kk : KTree K) (kT : K 31 = none) (B : PO h p F d m W nw M st ba) (hw : W + 2 < 100000) (hst : StOk st) (hn : nw.length ≤ 1024) {root : Tr3} {L1 : List Tr3} {L2 : Nat → List Tr3} (t : Tree nw M root L1 L2) (ii : Int) (hc : 2 ≤ M.count 1) :
    Wf Try.prog K 31 [.pointer (some ⟨p, 0, none⟩), qV root, .int .i64 ii] h (TrimR h p F d m W nw M st ba root L1 L2 ii) := by
  refine vc_tree_Trim kT _ _ _ _ _ h _ fun g0 e0 g1 e1 => (treeWithin kk ii).mono ?_
  have o0 := old_of_alloc e0
  have n0 := next_of_alloc e0
  have o1 := old_of_alloc e1
  have n1 := next_of_alloc e1
  have B1 := (B.old o0).old o1
  have w0 := (own_new e0 B.lt).old o1
  have w1 := own_new e1 (B.old o0).lt
  have f1 : Fr F h g1 F := (o0.trans o1).fr F
  rintro _ _ ⟨rfl, rfl⟩
  by_cases hr : 0 ≤ ii ∧ ii < 64
  rotate_left
  · obtain ⟨g2, k2, nr2, w2⟩ := w1.put (vs := [.int .i64 (root.1 : Nat), .int .u64 (root.2.1 : Nat), .int .u32 (root.2.2 : Nat)]) rfl
    exact .inr ⟨by rw [decide_eq_false hr], _, _, _, w0.ld rfl, rfl, g2, k2, _, _, _, w2.ld rfl, .inl ⟨111, .inl ⟨hr, rfl⟩, rfl, B1.nearN nr2 w1.2.2, f1.near_new nr2 (by omega)⟩⟩
  refine .inl ⟨by rw [decide_eq_true hr], ?_⟩
  obtain ⟨i, rfl⟩ : ∃ i : Nat, ii = i := ⟨ii.toNat, by omega⟩
  have hi : i < 64 := by omega
  obtain ⟨q2, hq2⟩ := t.get1 hi
  obtain ⟨b, hbq⟩ := t.get2 hi
  have hl2 := t.l2 (i / 8) (by omega)
  have h51 := way_len (b := b) t.l1 hl2
  have z24 : (ptr3 L1).length = 24 := by rw [ptr3_len, t.l1]
  have y24 : (ptr3 (L2 (i / 8))).length = 24 := by rw [ptr3_len, hl2]
  have okb := t.ok2 (i / 8) (by omega) b (List.mem_of_getElem? hbq)
  have ok2 := (t.at2 _ _ hq2).ok
  refine ⟨_, _, _, w0.ld rfl, (treeWalk kk B1 t hi hq2 hbq).mono ?_⟩
  rintro _ g8 ⟨rfl, B8, f8⟩
  refine ⟨_, _, rfl, fun g11 e11 => ?_⟩
  obtain ⟨g12, k12, n12, o12, v12⟩ := put_new e11 (vs := ptr3 (L1 ++ L2 (i / 8) ++ [b])) (by rw [h51]; rfl)
  have w12 := v12 F B8.lt
  have B12 := B8.old o12
  have fA : Fr F g1 g12 F := f8.trans (o12.fr F)
  have r12 := w0.fr fA
  have x12 := w1.fr fA
  have f12 := f1.trans fA
  have hll : (L1 ++ L2 (i / 8)).length = 16 := by rw [List.length_append, t.l1, hl2]
  have ld13 : ldN g12 g8.next 48 3 = some [.int .i64 (b.1 : Nat), .int .u64 (b.2.1 : Nat), .int .u32 (b.2.2 : Nat)] := by
    rw [show 48 = 16 * 3 from rfl, w12.ldp (by rw [h51]; decide), ptr3_at (q := b)]
    rw [List.getElem?_append_right (by omega), hll]
    rfl
  refine ⟨h51, g12, k12, fun _ => ⟨_, _, _, ld13, _, _, key3 okb, kHole, fun e => ?_, fun e => ?_⟩, fun z => absurd rfl z⟩
  · rw [hole3] at e
    have e := of_decide_eq_true e
    subst e
    obtain ⟨g2, k2, nr2, w2⟩ := x12.put (vs := [.int .i64 (root.1 : Nat), .int .u64 (root.2.1 : Nat), .int .u32 (root.2.2 : Nat)]) rfl
    exact ⟨_, _, _, r12.ld rfl, rfl, g2, k2, _, _, _, w2.ld rfl, .inl ⟨0, .inr ⟨i, rfl, hi, hbq, rfl⟩, rfl, B12.nearN nr2 x12.2.2, f12.near_new nr2 (by omega)⟩⟩
  rw [hole3] at e
  have hbh := of_decide_eq_false e
  refine ⟨ptr3 L1, by rw [w12.ldp (by rw [h51]; decide), way1 t.l1], fun g26 e26 g27 e27 => ?_⟩
  have o26 := old_of_alloc e26
  have n26 := next_of_alloc e26
  have o27 := old_of_alloc e27
  have n27 := next_of_alloc e27
  have a27 := (own_new e26 B12.lt).old o27
  have b27 := own_new e27 (B12.old o26).lt
  have B27 := (B12.old o26).old o27
  have w27 := (w12.old o26).old o27
  obtain ⟨g28, k28, nr28, a28⟩ := a27.put (vs := ptr3 L1) (by rw [z24]; rfl)
  have w28 := w27.near nr28 (by have := w12.2.1; omega)
  obtain ⟨g30, k30, nr30, b30⟩ := (b27.near nr28 (by omega)).put (vs := ptr3 (L2 (i / 8))) (by rw [y24]; rfl)
  have ldy : ∀ {g : AH}, Mine g F g8.next (ptr3 (L1 ++ L2 (i / 8) ++ [b])) 106 → ldN g g8.next 24 24 = some (ptr3 (L2 (i / 8))) := fun w => by rw [w.ldp (by rw [h51]; decide), way2 t.l1 hl2]
  refine ⟨z24, g28, k28, _, ldy w28, y24, g30, k30, self_ptr ⟨ldy w27, self_ptr ⟨ldy w28, by decide, fun i31 e31 => ?_⟩⟩⟩
  rw [show (8 : Int) = ((8 : Nat) : Int) from rfl, tmodN] at e31
  subst e31
  obtain ⟨g32, k32, nr32, b32⟩ := b30.part (off := i % 8 * 3) (vs := [.int .i64 0, .int .u64 0, .int .u32 0]) (by rw [y24]; simp only [List.length_cons, List.length_nil]; omega)
  have b32' : Mine g32 F g26.next (ptr3 ((L2 (i / 8)).set (i % 8) hole)) 104 := by
    have s := ptr3_set (L2 (i / 8)) (i % 8) hole (by omega)
    rw [← s]
    exact b32
  refine ⟨by omega, by omega, rfl, g32, by rw [Int.toNat_natCast, Nat.zero_add]; exact k32, by decide, fun i33 e33 => ?_⟩
  rw [show (8 : Int) = ((8 : Nat) : Int) from rfl, tdivN] at e33
  have e33 := i64w e33 (by omega) (by omega)
  subst e33
  obtain ⟨g34, k34, nr34, a34⟩ := ((a28.near nr30 (by omega)).near nr32 (by omega)).part (off := i / 8 * 3) (vs := [.int .i64 0, .int .u64 0, .int .u32 0]) (by rw [z24]; simp only [List.length_cons, List.length_nil]; omega)
  have a34' : Mine g34 F g12.next (ptr3 (L1.set (i / 8) hole)) 104 := by
    have s := ptr3_set L1 (i / 8) hole (by rw [t.l1]; omega)
    rw [← s]
    exact a34
  have b34 := b32'.near nr34 (by omega)
  have hls : ((L2 (i / 8)).set (i % 8) hole).length = 8 := by rw [List.length_set, hl2]
  have hlt : (L1.set (i / 8) hole).length = 8 := by rw [List.length_set, t.l1]
  have okS := set_ok (i := i % 8) (t.ok2 (i / 8) (by omega)) hole_ok
  have okT := set_ok (i := i / 8) t.ok1 hole_ok
  have B34 := (((B27.nearN nr28 a27.2.2).nearN nr30 b27.2.2).nearN nr32 b30.2.2).nearN nr34 a34'.2.2
  have f34a : Fr F g12 g34 F := (((((o26.trans o27).fr F).near_new nr28 (Nat.le_refl _)).near_new nr30 (by omega)).near_new nr32 (by omega)).near_new nr34 (Nat.le_refl _)
  have f34 := f12.trans f34a
  have r34 := r12.fr f34a
  have x34 := x12.fr f34a
  have w34 := w12.fr f34a
  refine ⟨by omega, by omega, rfl, g34, by rw [Int.toNat_natCast, Nat.zero_add]; exact k34, _, b34.ld (by rw [ptr3_len, hls]), (nodeEmpty kk.nEmpty hls okS).mono ?_⟩
  rintro v g37 ⟨hv, o37⟩
  have B37 := B34.old o37
  have f37 := f34.trans (o37.fr F)
  have fin : ∀ {q2' q3 : Tr3} {nw1 : List (List Nat)} {M1 : List Nat} {nw2 : List (List Nat)} {M2 F' : List Nat} {W' : Nat} {g : AH}, PutsO nw M st q2' ((L2 (i / 8)).set (i % 8) hole) nw1 M1 → PutsO nw1 M1 st q3 (L1.set (i / 8) q2') nw2 M2 → W' ≤ W + 2 → PO g p F' d m W' nw2 M2 st ba → Fr F h g F' → g0.next < g.next → g0.next ∉ F' →
      ∀ pr nr cr g80 g87, Old g g80 → Near g0.next g80 g87 → Grow g.next g80 28 3 pr nr cr (ptr3 (noHoles [b, q2, root])) →
      TrimR h p F d m W nw M st ba root L1 L2 ((i : Nat) : Int) (Value.tuple #[qV q3, .slice pr nr cr, .int .i64 0]) g87 := by
    intro q2' q3 nw1 M1 nw2 M2 F' W' g p2 p3 hW Bg fg lg ng pr nr cr g80 g87 o80 n87 G
    exact .inr ⟨i, q2, b, q2', q3, nw1, M1, nw2, M2, F', W', pr, nr, cr, rfl, hi, hq2, hbq, hbh, rfl, p2, p3, hW, (Bg.old o80).nearN n87 ng, (fg.trans (o80.fr F')).near_new n87 (by omega), G.near n87 lg fg.1, fun a e z => absurd (Bg.lt _ z) (Nat.not_lt.2 (G.block e).1)⟩
  have lx : g0.next < g37.next := by have := x34.2.1; have := o37.1; omega
  rcases hv with ⟨rfl, hS⟩ | ⟨rfl, hS⟩
  · refine .inl ⟨rfl, _, (a34'.old o37).ld (by rw [ptr3_len, hlt]), (nodeEmpty kk.nEmpty hlt okT).mono ?_⟩
    rintro v g40 ⟨hv, o40⟩
    have B40 := B37.old o40
    have f40 := f37.trans (o40.fr F)
    rcases hv with ⟨rfl, hT⟩ | ⟨rfl, hT⟩
    · -- nothing is left
      refine .inl ⟨rfl, (mapP kk B40).mono ?_⟩
      rintro _ _ ⟨rfl, rfl⟩
      refine ⟨_, rfl, (countP kk B40).mono ?_⟩
      rintro _ _ ⟨rfl, rfl⟩
      refine ⟨_, rfl, fun z => absurd z (by omega), fun _ => ⟨fun z => absurd z (by decide), fun _ g118 e118 => ⟨fun z => absurd z (by decide), fun _ => ?_⟩⟩⟩
      have o118 := old_of_alloc e118
      have oo := (o37.trans o40).trans o118
      exact trimTail (Q := TrimR h p F d m W nw M st ba root L1 L2 ((i : Nat) : Int)) kk (B40.old o118).lt (q3 := hole) t.l1 hl2 t.at1.ok ok2 okb hi hq2 (w34.old oo) (r34.old oo) (x34.old oo) rfl (own_new e118 B40.lt)
        (fin (.inl ⟨hS, rfl, rfl, rfl⟩) (.inl ⟨hT, rfl, rfl, rfl⟩) (by omega) (B40.old o118) (f40.trans (o118.fr F)) (x34.old oo).2.1 (x34.old oo).2.2)
    · -- one node is left
      refine .inr ⟨rfl, _, ((b34.old o37).old o40).ld (by rw [ptr3_len, hls]), (nodeEmpty kk.nEmpty hls okS).mono ?_⟩
      rintro v g168 ⟨hv, o168⟩
      rcases hv with ⟨rfl, -⟩ | ⟨-, z⟩
      rotate_left
      · exact absurd hS z
      have B168 := B40.old o168
      refine .inl ⟨rfl, (mapP kk B168).mono ?_⟩
      rintro _ _ ⟨rfl, rfl⟩
      refine ⟨_, rfl, (countP kk B168).mono ?_⟩
      rintro _ _ ⟨rfl, rfl⟩
      refine ⟨_, rfl, fun z => absurd z (by omega), fun _ => ⟨fun z => absurd z (by decide), fun _ g246 e246 => ⟨fun _ => ?_, fun z => absurd (by decide) z⟩⟩⟩
      have o246 := old_of_alloc e246
      have n246 := next_of_alloc e246
      have oo := ((o37.trans o40).trans o168).trans o246
      have u246 := own_new e246 B168.lt
      have B246 := B168.old o246
      refine ⟨_, (a34'.old oo).ld (by rw [ptr3_len, hlt]), (save' kk B246 (by omega) (one_mem (by omega)) hlt okT).mono ?_⟩
      rintro _ g249 ⟨q3, nw2, M2, F2, rfl, p3, B249, f249⟩
      obtain ⟨y3, n3⟩ := p3.lies hn (nodeB_sec hlt) hst
      obtain ⟨g254, k254, nr254, u254⟩ := (u246.fr f249).put (vs := [.int .i64 (q3.1 : Nat), .int .u64 (q3.2.1 : Nat), .int .u32 (q3.2.2 : Nat)]) rfl
      refine ⟨_, _, _, _, rfl, rfl, g254, k254, fun _ => ?_, fun z => absurd rfl z⟩
      have fz : Fr F g34 g254 F2 := ((oo.fr F).trans f249).near_new nr254 (by have := o37.1; have := o40.1; have := o168.1; omega)
      have B254 := B249.nearN nr254 u254.2.2
      exact trimTail (Q := TrimR h p F d m W nw M st ba root L1 L2 ((i : Nat) : Int)) kk B254.lt (q3 := q3) t.l1 hl2 t.at1.ok ok2 okb hi hq2 (w34.fr fz) (r34.fr fz) (x34.fr fz) rfl u254
        (fin (.inl ⟨hS, rfl, rfl, rfl⟩) (.inr ⟨hT, n3, p3⟩) (by omega) B254 (f34.trans fz) (x34.fr fz).2.1 (x34.fr fz).2.2)
  · refine .inr ⟨rfl, _, (b34.old o37).ld (by rw [ptr3_len, hls]), (nodeEmpty kk.nEmpty hls okS).mono ?_⟩
    rintro v g421 ⟨hv, o421⟩
    rcases hv with ⟨-, z⟩ | ⟨rfl, -⟩
    · exact absurd z hS
    have B421 := B37.old o421
    refine .inr ⟨rfl, (mapP kk B421).mono ?_⟩
    rintro _ _ ⟨rfl, rfl⟩
    refine ⟨_, rfl, (countP kk B421).mono ?_⟩
    rintro _ _ ⟨rfl, rfl⟩
    refine ⟨_, rfl, fun z => absurd z (by omega), fun _ => ⟨fun _ => ⟨by decide, fun i560 e560 => ?_⟩, fun z => absurd rfl z⟩⟩
    rw [show (8 : Int) = ((8 : Nat) : Int) from rfl, tdivN] at e560
    have e560 := i64w e560 (by omega) (by omega)
    subst e560
    have oo := o37.trans o421
    refine ⟨_, (b34.old oo).ld (by rw [ptr3_len, hls]), (save' kk B421 (by omega) (one_mem (by omega)) hls okS).mono ?_⟩
    rintro _ g563 ⟨q2', nw1, M1, F1, rfl, p2, B563, f563⟩
    obtain ⟨y2, n2⟩ := p2.lies hn (nodeB_sec hls) hst
    have c2 := p2.cnt
    obtain ⟨g568, k568, nr568, a568⟩ := ((a34'.old oo).fr f563).part (off := i / 8 * 3) (vs := [.int .i64 (q2'.1 : Nat), .int .u64 (q2'.2.1 : Nat), .int .u32 (q2'.2.2 : Nat)]) (by rw [ptr3_len, hlt]; simp only [List.length_cons, List.length_nil]; omega)
    have a568' : Mine g568 F1 g12.next (ptr3 (L1.set (i / 8) q2')) 104 := by
      have s := ptr3_set (L1.set (i / 8) hole) (i / 8) q2' (by rw [hlt]; omega)
      rw [List.set_set] at s
      rw [← s]
      exact a568
    have B568 := B563.nearN nr568 a568.2.2
    refine ⟨_, _, _, _, rfl, by omega, by omega, rfl, g568, by rw [Int.toNat_natCast, Nat.zero_add]; exact k568, fun _ g569 e569 => ⟨fun _ => ?_, fun z => absurd (by decide) z⟩, fun z => absurd rfl z⟩
    have o569 := old_of_alloc e569
    have n569 := next_of_alloc e569
    have u569 := own_new e569 B568.lt
    have B569 := B568.old o569
    have hlt' : (L1.set (i / 8) q2').length = 8 := by rw [List.length_set, t.l1]
    refine ⟨_, (a568'.old o569).ld (by rw [ptr3_len, hlt']), (save' kk B569 (by omega) (one_mem (by omega)) hlt' (set_ok t.ok1 y2.ok)).mono ?_⟩
    rintro _ g572 ⟨q3, nw2, M2, F2, rfl, p3, B572, f572⟩
    obtain ⟨y3, n3⟩ := p3.lies (by rw [p2.len]; exact hn) (nodeB_sec hlt') hst
    obtain ⟨g577, k577, nr577, u577⟩ := (u569.fr f572).put (vs := [.int .i64 (q3.1 : Nat), .int .u64 (q3.2.1 : Nat), .int .u32 (q3.2.2 : Nat)]) rfl
    refine ⟨_, _, _, _, rfl, rfl, g577, k577, fun _ => ?_, fun z => absurd rfl z⟩
    have l34 : g34.next ≤ g563.next := Nat.le_trans oo.1 f563.1
    have l568 : g568.next = g563.next := nr568.1
    have fq : Fr F g12 g568 F1 := (f34a.trans ((oo.fr F).trans f563)).near_new nr568 (Nat.le_refl _)
    have fz : Fr F g12 g577 F2 := ((fq.trans (o569.fr F1)).trans f572).near_new nr577 (by have := f34a.1; omega)
    have B577 := B572.nearN nr577 u577.2.2
    exact trimTail (Q := TrimR h p F d m W nw M st ba root L1 L2 ((i : Nat) : Int)) kk B577.lt (q3 := q3) t.l1 hl2 t.at1.ok ok2 okb hi hq2 (w12.fr fz) (r12.fr fz) (x12.fr fz) rfl u577
      (fin (.inr ⟨hS, n2, p2⟩) (.inr ⟨set_nz (by rw [t.l1]; omega) n2, n3, p3⟩) (by omega) B577 (f12.trans fz) (x12.fr fz).2.1 (x12.fr fz).2.2)
end
end Go.Am
