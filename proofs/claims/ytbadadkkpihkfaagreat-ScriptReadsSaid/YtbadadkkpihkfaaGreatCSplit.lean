/-
  TEXTS SPLIT: the program's and the document's.
-/
import Derived.Test.YtbadadkkpihkfaaGreatCJoin
import Derived.Test.YtbadadkkpihkfaaGreatAmH
set_option linter.unusedVariables false
set_option linter.unusedSimpArgs false
set_option maxRecDepth 100000
namespace Go.Am
open Go.Proofs
/-- A row of texts that grows: the row, and each text, in a block of its own. -/
def RowsG (lim : Nat) (g : AH) (p : Option Addr) (n c : Nat) (ts : List Bs) : Prop := n = ts.length ∧ ∃ cells, Grow lim g 26 1 p n c cells ∧ ∀ (i : Nat) (hi : i < ts.length), ∃ p' n' c', cells[i]? = some (.slice p' n' c') ∧ Text g p' n' ts[i] ∧ CutP Tryz.prog g 5 p' n' c' ∧ ∀ a, p' = some a → lim ≤ a.block ∧ a.block < g.next ∧ apart p a.block
theorem Text.kept {h h' : AH} {p : Option Addr} {n : Nat} {data : List Nat} (t : Text h p n data) (hn : h.next ≤ h'.next) (k : ∀ a, p = some a → h'.get a.block = h.get a.block) : Text h' p n data := ⟨t.1, t.2.1, t.2.2.1, t.2.2.2.1.kept hn k, t.2.2.2.2⟩
theorem RowsG.rows {lim : Nat} {g : AH} {p : Option Addr} {n c : Nat} {ts : List Bs} (R : RowsG lim g p n c ts) : Rows g p n ts := by
  obtain ⟨h1, cells, h2, h3⟩ := R
  refine ⟨h1, cells, h2.shows, fun i hi => ?_⟩
  obtain ⟨p', n', c', q1, q2, -⟩ := h3 i hi
  exact ⟨p', n', c', q1, q2⟩
theorem RowsG.nil (lim : Nat) (g : AH) : RowsG lim g none 0 0 [] := ⟨rfl, [], Grow.nil _ _ _ _, fun i hi => absurd hi (Nat.not_lt_zero _)⟩
theorem RowsG.lit {lim : Nat} {h h1 : AH} (e : h1 = h.alloc (.cells [] 26 false)) (hl : lim ≤ h.next) : RowsG lim h1 (some ⟨h.next, 0, none⟩) 0 0 [] := ⟨rfl, [], Grow.lit e rfl hl, fun i hi => absurd hi (Nat.not_lt_zero _)⟩
/-- Changes elsewhere. -/
theorem RowsG.kept {lim : Nat} {g g' : AH} {p : Option Addr} {n c : Nat} {ts : List Bs} (R : RowsG lim g p n c ts) (hn : g.next ≤ g'.next) (k : ∀ b, lim ≤ b → b < g.next → g'.get b = g.get b) : RowsG lim g' p n c ts := by
  obtain ⟨h1, cells, h2, h3⟩ := R
  refine ⟨h1, cells, ⟨h2.1, ?_⟩, fun i hi => ?_⟩
  · rcases h2.2 with z | ⟨b, q1, q2, q3, q4, q5⟩
    · exact .inl z
    · exact .inr ⟨b, q1, q2, Nat.lt_of_lt_of_le q3 hn, by rw [k b q2 q3]; exact q4, q5⟩
  · obtain ⟨p', n', c', q1, q2, q3, q4⟩ := h3 i hi
    exact ⟨p', n', c', q1, q2.kept hn fun a ha => k _ (q4 a ha).1 (q4 a ha).2.1, q3.kept fun a ha => k _ (q4 a ha).1 (q4 a ha).2.1, fun a ha => ⟨(q4 a ha).1, Nat.lt_of_lt_of_le (q4 a ha).2.1 hn, (q4 a ha).2.2⟩⟩
theorem RowsG.old {lim : Nat} {g g' : AH} {p : Option Addr} {n c : Nat} {ts : List Bs} (R : RowsG lim g p n c ts) (o : Old g g') : RowsG lim g' p n c ts := R.kept o.1 fun b _ hb => o.2 b hb
/-- One text more. -/
theorem RowsG.push {lim : Nat} {g g4 : AH} {p : Option Addr} {n c : Nat} {ts : List Bs} (R : RowsG lim g p n c ts) (hl : lim ≤ g.next) {p' : Option Addr} {n' c' : Nat} {t : Bs} (T : Text g p' n' t) (C : CutP Tryz.prog g 5 p' n' c') (hp : ∀ a, p' = some a → lim ≤ a.block ∧ a.block < g.next ∧ apart p a.block)
    (e4 : g4 = g.alloc (.cells [.slice p' n' c'] 26 false)) (hm : ts.length ≤ 1000000) :
    ∃ p2 c2 g2, aBuiltin Tryz.prog g4 .append #[47, 47] [.slice p n c, .slice (some ⟨g.next, 0, none⟩) 1 1] = some (.slice p2 (n + 1) c2, g2) ∧ RowsG lim g2 p2 (n + 1) c2 (ts ++ [t]) ∧ OldB lim g g2 ∧ ∀ b, b < g.next → apart p b → g2.get b = g.get b := by
  obtain ⟨h1, cells, h2, h3⟩ := R
  obtain ⟨p2, c2, g2, k2, G2, o2, f2, m2⟩ := h2.push eTexts hl e4 (m := 1) rfl (by have : roomMax = 140737488355328 := rfl; omega) (by omega)
  obtain ⟨b2, rfl, hb2⟩ := m2 (by omega)
  have cl : cells.length = ts.length := by have := h2.1; omega
  refine ⟨_, c2, g2, k2, ⟨by simp [h1], _, G2, fun i hi => ?_⟩, o2, f2⟩
  by_cases hi' : i < ts.length
  · obtain ⟨q', m', d', q1, q2, q3, q4⟩ := h3 i hi'
    refine ⟨q', m', d', by rw [List.getElem?_append_left (by omega)]; exact q1, ?_, q3.kept fun a ha => f2 _ (q4 a ha).2.1 (q4 a ha).2.2, fun a ha => ⟨(q4 a ha).1, by have := (q4 a ha).2.1; have := o2.1; omega, by have := (q4 a ha).2.1; show b2 ≠ a.block; omega⟩⟩
    rw [List.getElem_append_left hi']
    exact q2.kept o2.1 fun a ha => f2 _ (q4 a ha).2.1 (q4 a ha).2.2
  · have hie : i = ts.length := by simp at hi; omega
    subst hie
    refine ⟨p', n', c', by rw [List.getElem?_append_right (by omega)]; simp [cl], ?_, C.kept fun a ha => f2 _ (hp a ha).2.1 (hp a ha).2.2, fun a ha => ⟨(hp a ha).1, by have := (hp a ha).2.1; have := o2.1; omega, by have := (hp a ha).2.1; show b2 ≠ a.block; omega⟩⟩
    simp only [List.getElem_append_right (Nat.le_refl _), Nat.sub_self, List.getElem_cons_zero]
    exact T.kept o2.1 fun a ha => f2 _ (hp a ha).2.1 (hp a ha).2.2
theorem natC_take (k : IntKind) (l : List Nat) (m : Nat) : (natC k l).take m = natC k (l.take m) := by simp [natC, List.map_take]
theorem natC_drop (k : IntKind) (l : List Nat) (m : Nat) : (natC k l).drop m = natC k (l.drop m) := by simp [natC, List.map_drop]
section
variable {K : Xs} {h : AH}
theorem lengthBad (hk : K 34 = none) {p : Option Addr} {n c : Nat} (h2 : n < 2) :
    Wf Tryz.prog K 34 [.slice p n c] h fun v h' => v = .tuple #[.int .i64 0, .slice none 0 0, .bool false] ∧ h = h' :=
  vc_field_length hk _ _ _ h _ ⟨fun _ => ⟨rfl, rfl⟩, fun z => absurd z (by omega)⟩
theorem lengthSpec (hk : K 34 = none) {p : Option Addr} {n c x y : Nat} {r : List Nat} (S : Shows h p n 1 (natC .u8 (x :: y :: r))) (hx : x < 256) (hy : y < 256) (C : CutP Tryz.prog h 5 p n c) :
    Wf Tryz.prog K 34 [.slice p n c] h fun v h' => h = h' ∧ ∃ p' c', v = .tuple #[.int .i64 ((x + 256 * y : Nat) : Int), .slice p' (n - 2) c', .bool true] ∧ Shows h p' (n - 2) 1 (natC .u8 r) ∧ CutP Tryz.prog h 5 p' (n - 2) c' ∧ (∀ b off, p = some ⟨b, off, none⟩ → ∃ off', p' = some ⟨b, off', none⟩) := by
  have hn : n = r.length + 2 := by have := S.1; rw [natC_len] at this; simp at this; omega
  refine vc_field_length hk _ _ _ h _ ⟨fun z => absurd z (by omega), fun _ => ?_⟩
  obtain ⟨b, off, rfl, l0⟩ := S.get (i := 0) (by omega)
  obtain ⟨b', off', e, l1⟩ := S.get (i := 1) (by omega)
  simp only [Option.some.injEq, Addr.mk.injEq, and_true] at e
  obtain ⟨rfl, rfl⟩ := e
  refine derefP_at ⟨by omega, by omega, (x : Int), by simpa [natC] using l0, fun i3 e3 => derefP_at ⟨by omega, by omega, (y : Int), by simpa [natC] using l1, fun i7 e7 => ?_⟩⟩
  have e3 := i64w e3 (by omega) (by omega)
  have e7 := i64w e7 (by omega) (by omega)
  subst e3 e7
  obtain ⟨p', c', k, hp, -, C'⟩ := cutP eU8 (by simp) C (some 2) none (by simp [endN]; omega) (Nat.le_refl _)
  refine ⟨_, shl8_i64 hy, _, or8_i64 hx hy, p', n - 2, c', k, rfl, p', c', rfl, ?_, C', fun b2 off2 z => ?_⟩
  · have := S.cut2 (lo := 2) (hi := n) (by omega) (Nat.le_refl _) hp
    rw [natC_drop, natC_take] at this
    simp only [List.drop_succ_cons, List.drop_zero, Nat.mul_one, Nat.reduceMul] at this
    rw [List.take_of_length_le (by omega)] at this
    exact this
  · obtain ⟨o', h1, -⟩ := hp b2 off2 z
    exact ⟨o', h1⟩
theorem two_of {r : Bs} (h : ¬ r.length < 2) : ∃ x y l, r = x :: y :: l := by
  match r, h with
  | x :: y :: l, _ => exact ⟨x, y, l, rfl⟩
  | [], h => simp at h
  | [_], h => simp at h
theorem parse_bad {k : Nat} {r : Bs} (h : r.length < 2) : parse (k + 1) r = none := by
  match r, h with
  | [], _ => rfl
  | [_], _ => rfl
theorem parse_step {k x y : Nat} {r : Bs} (h : x + 256 * y ≤ r.length) : parse (k + 1) (x :: y :: r) = (parse k (r.drop (x + 256 * y))).map (r.take (x + 256 * y) :: ·) := if_pos h
theorem parse_short {k x y : Nat} {r : Bs} (h : r.length < x + 256 * y) : parse (k + 1) (x :: y :: r) = none := if_neg (by omega)
theorem parse_end {r : Bs} (h : 0 < r.length) : parse 0 r = none := by cases r with | nil => cases h | cons => rfl
/-- What splitting answers. -/
def SplitQ (lim : Nat) (o : Option (List Bs)) (v : Value) (g : AH) : Prop := match o with
  | some ts => ∃ p c, v = .tuple #[.slice p ts.length c, .int .i64 0] ∧ RowsG lim g p ts.length c ts
  | none => v = .tuple #[.slice none 0 0, .int .i64 21]
theorem splitSpec2 (hk : K 23 = none) (hl : K 34 = none) {p : Option Addr} {n c : Nat} {data : List Nat} (T : Text h p n data) (C : CutP Tryz.prog h 5 p n c) (hb : ∀ a, p = some a → a.block < h.next) :
    Wf Tryz.prog K 23 [.slice p n c] h fun v h' => SplitQ h.next (splitB data) v h' ∧ Old h h' := by
  obtain ⟨pf, rfl, hmax, S, hd⟩ := T
  match data, S, hd, hmax with
  | [], S, hd, hmax => exact vc_field_Split hk _ _ _ h _ ((lengthBad hl (by decide)).mono fun v h' ⟨e1, e2⟩ => by subst e1 e2; exact ⟨_, _, _, _, .inr ⟨rfl, rfl, Old.refl _⟩⟩)
  | [_], S, hd, hmax => exact vc_field_Split hk _ _ _ h _ ((lengthBad hl (by simp)).mono fun v h' ⟨e1, e2⟩ => by subst e1 e2; exact ⟨_, _, _, _, .inr ⟨rfl, rfl, Old.refl _⟩⟩)
  | x :: y :: r0, S, hd, hmax =>
    have hx := hd x (by simp)
    have hy := hd y (by simp)
    refine vc_field_Split hk _ _ _ h _ ((lengthSpec hl S hx hy C).mono ?_)
    rintro _ _ ⟨rfl, p3, c5, rfl, S3, C3, hp3⟩
    have hsp : splitB (x :: y :: r0) = parse (x + 256 * y) r0 := rfl
    have hb3 : ∀ a, p3 = some a → a.block < h.next := fun a ha => by
      rcases pf with rfl | ⟨b, off, rfl⟩
      · rcases S.2 with z | ⟨b, off, al, e, ro, q, -⟩
        · simp at z
        · cases q
      · obtain ⟨o', h1⟩ := hp3 b off rfl
        rw [h1] at ha
        cases ha
        exact hb ⟨b, off, none⟩ rfl
    refine ⟨_, _, _, _, .inl ⟨rfl, fun p10 n11 c12 p13 n14 c15 i16 k g => ∃ done r, i16 = ((done.length : Nat) : Int) ∧ done.length ≤ x + 256 * y ∧ x + 256 * y - done.length = k ∧ n11 = r.length ∧ Shows g p10 n11 1 (natC .u8 r) ∧ CutP Tryz.prog g 5 p10 n11 c12 ∧ (∀ a, p10 = some a → a.block < h.next) ∧ (p10 = none ∨ ∃ b off, p10 = some ⟨b, off, none⟩) ∧ (∀ z ∈ r, z < 256) ∧ r.length ≤ r0.length ∧
        splitB (x :: y :: r0) = (parse (x + 256 * y - done.length) r).map (done ++ ·) ∧ RowsG h.next g p13 n14 c15 done ∧ Old h g,
      ⟨_, [], r0, rfl, Nat.zero_le _, rfl, by simp, S3, C3, hb3, ?_, fun z hz => hd z (List.mem_cons_of_mem _ (List.mem_cons_of_mem _ hz)), Nat.le_refl _, by rw [hsp]; simp, RowsG.nil _ _, Old.refl _⟩, ?_⟩⟩
    · rcases pf with rfl | ⟨b, off, rfl⟩
      · rcases S.2 with z | ⟨b, off, al, e, ro, q, -⟩
        · simp at z
        · cases q
      · obtain ⟨o', h1⟩ := hp3 b off rfl
        exact .inr ⟨b, o', h1⟩
    rintro k7 g8 p10 n11 c12 p13 n14 c15 i16 ⟨done, r, rfl, hdl, rfl, rfl, S10, C10, hb10, pf10, hd10, hr0, hsplit, RG, o8⟩
    refine ⟨fun z => ?_, fun z => ?_⟩
    · have hlt : done.length < x + 256 * y := by omega
      obtain ⟨k', hk'⟩ : ∃ k', x + 256 * y - done.length = k' + 1 := ⟨x + 256 * y - done.length - 1, by omega⟩
      by_cases hr2 : r.length < 2
      · refine (lengthBad hl hr2).mono ?_
        rintro _ _ ⟨rfl, rfl⟩
        refine ⟨_, _, _, _, .inr ⟨rfl, ?_, o8⟩⟩
        rw [hsplit, hk', parse_bad hr2]
        rfl
      · obtain ⟨x', y', r', rfl⟩ := two_of hr2
        · skip
          have hx' := hd10 x' (by simp)
          have hy' := hd10 y' (by simp)
          refine (lengthSpec hl S10 hx' hy' C10).mono ?_
          rintro _ _ ⟨rfl, p20, c22, rfl, S20, C20, hp20⟩
          have hb20 : ∀ a, p20 = some a → a.block < h.next := fun a ha => by
            rcases pf10 with rfl | ⟨b, off, rfl⟩
            · rcases S10.2 with z | ⟨b, off, al, e, ro, q, -⟩
              · simp at z
              · cases q
            · obtain ⟨o', h1⟩ := hp20 b off rfl
              rw [h1] at ha
              cases ha
              exact hb10 ⟨b, off, none⟩ rfl
          have pf20 : p20 = none ∨ ∃ b off, p20 = some ⟨b, off, none⟩ := by
            rcases pf10 with rfl | ⟨b, off, rfl⟩
            · rcases S10.2 with z | ⟨b, off, al, e, ro, q, -⟩
              · simp at z
              · cases q
            · obtain ⟨o', h1⟩ := hp20 b off rfl
              exact .inr ⟨b, o', h1⟩
          have hn20 : (x' :: y' :: r').length - 2 = r'.length := by simp
          rw [hn20] at S20 C20 ⊢
          refine ⟨_, _, _, _, .inl ⟨rfl, fun q => ⟨?_, o8⟩, fun q => ⟨⟨by omega, by omega, by omega, by omega⟩, fun g23 e23 => ?_⟩⟩⟩
          · rw [hsplit, hk', parse_short (by omega)]
            rfl
          have hsz : x' + 256 * y' ≤ r'.length := by omega
          have o23 := old_of_alloc e23
          have n23 := next_of_alloc e23
          have c23 := get_of_alloc e23
          rw [Int.toNat_natCast] at *
          have zl : ((List.replicate (x' + 256 * y') ([.int .u8 0] : List Value)).flatten).length = x' + 256 * y' := by simp
          obtain ⟨i24, g25, k25, n25, c25⟩ := copy_own0 eU8 (c := x' + 256 * y') c23 zl (S20.old o23) pf20 (c' := c22) hsz 26
          rw [natC_take] at c25
          have o25 : Old h g25 := (o8.trans o23).near n25 o8.1
          have n25' : g25.next = g8.next + 1 := by rw [n25.1, n23]
          have T25 : Text g25 (some ⟨g8.next, 0, none⟩) (x' + 256 * y') (r'.take (x' + 256 * y')) := by
            refine ⟨.inr ⟨_, _, rfl⟩, by rw [List.length_take]; omega, by have : reachBytes = 140737488351232 := rfl; omega, ⟨by rw [natC_len, List.length_take]; omega, ?_⟩, fun z hz => hd10 z (List.mem_cons_of_mem _ (List.mem_cons_of_mem _ (List.mem_of_mem_take hz)))⟩
            refine .inr ⟨_, 0, _, _, _, rfl, by omega, c25, ?_, ?_⟩
            · rw [natC_len, List.length_take]; omega
            · rw [List.drop_zero, Nat.mul_one, List.take_of_length_le (by rw [natC_len, List.length_take]; omega)]
          refine ⟨i24, g25, k25, fun g26 e26 => ?_⟩
          have RG25 : RowsG h.next g25 p13 n14 c15 done := RG.kept (by omega) fun b hb1 hb2 => by rw [n25.2 b (by omega), o23.2 b hb2]
          have hap : apart p13 g8.next := by
            obtain ⟨-, cells, G, -⟩ := RG
            rcases G.2 with ⟨rfl, -⟩ | ⟨b, rfl, q1, q2, -⟩
            · exact trivial
            · show b ≠ g8.next; omega
          obtain ⟨p27, c29, g30, k30, RG30, o30, f30⟩ := RG25.push (by have := o8.1; omega) T25 (.inr ⟨_, _, rfl, .inl ⟨Nat.le_refl _, by simp only [openCap]; omega⟩⟩) (fun a ha => by cases ha; exact ⟨o8.1, by show g8.next < g25.next; omega, hap⟩) e26 (by omega)
          have o30' : Old h g30 := ⟨Nat.le_trans o25.1 o30.1, fun b hb => by rw [o30.2 b hb, o25.2 b hb]⟩
          have keep30 : ∀ a, p20 = some a → g30.get a.block = g8.get a.block := fun a ha => by rw [o30'.2 _ (hb20 a ha), o8.2 _ (hb20 a ha)]
          obtain ⟨p31, c33, k33, hp31, hpn31, C31⟩ := cutP eU8 (by simp) (C20.kept keep30) (some (x' + 256 * y')) none (by simpa [endN] using hsz) (Nat.le_refl _)
          refine ⟨_, _, _, g30, k30, _, _, _, k33, fun i34 e34 => ?_⟩
          have e34 := i64w e34 (by omega) (by omega)
          refine ⟨k', by omega, done ++ [r'.take (x' + 256 * y')], r'.drop (x' + 256 * y'), by rw [e34]; simp, by simp; omega, by simp; omega, by simp [endN], ?_, by simpa [endN] using C31, fun a ha => ?_, ?_, fun z hz => hd10 z (List.mem_cons_of_mem _ (List.mem_cons_of_mem _ (List.mem_of_mem_drop hz))), by rw [List.length_drop]; simp at hr0; omega, ?_, by simpa using RG30, o30'⟩
          · have := (S20.kept (h' := g30) (by have := o30'.1; have := o30.1; omega) keep30).cut2 (lo := x' + 256 * y') (hi := r'.length) hsz (Nat.le_refl _) (p' := p31) (fun b off z => by simpa [endN] using hp31 b off z)
            rw [natC_drop, natC_take, Nat.mul_one, Nat.mul_one, List.take_of_length_le (by rw [List.length_drop]; omega)] at this
            simpa [endN] using this
          · rcases pf20 with rfl | ⟨b, off, rfl⟩
            · rw [hpn31 rfl] at ha; cases ha
            · obtain ⟨o', h1, -⟩ := hp31 b off rfl
              rw [h1] at ha
              cases ha
              exact hb20 ⟨b, off, none⟩ rfl
          · rcases pf20 with rfl | ⟨b, off, rfl⟩
            · exact .inl (hpn31 rfl)
            · obtain ⟨o', h1, -⟩ := hp31 b off rfl
              exact .inr ⟨b, o', h1⟩
          · rw [hsplit, hk', parse_step hsz, Option.map_map, show x + 256 * y - (done ++ [r'.take (x' + 256 * y')]).length = k' by simp; omega]
            congr 1
            funext us
            simp
    · have hde : done.length = x + 256 * y := by omega
      rw [hde, Nat.sub_self] at hsplit
      refine ⟨fun q => ⟨?_, o8⟩, fun q => ⟨?_, o8⟩⟩
      · rw [hsplit, parse_end (by omega)]
        rfl
      · have : r = [] := List.eq_nil_of_length_eq_zero (by omega)
        subst this
        rw [hsplit]
        have hn14 : n14 = done.length := RG.1
        subst hn14
        show SplitQ h.next (some (done ++ [])) _ g8
        rw [List.append_nil]
        exact ⟨_, _, rfl, RG⟩
end
end Go.Am
