/-
  THE SCRIPT OF BYTES: the program's.
-/
import Derived.Test.YtbadadkkpihkfaaGreatCScrC5
set_option linter.unusedVariables false
set_option linter.unusedSimpArgs false
set_option maxRecDepth 100000
namespace Go.Am
open Go.Proofs
def zScr : List Value := [.int .i64 0, .slice none 0 0]
/-- What reading a script answers. -/
def ReadQ (data : Bs) (v : Value) (g : AH) : Prop :=
  (∃ (s : ScrP) (p : Option Addr) (n c : Nat), ScrIs data s ∧ v = .tuple #[.agg #[.int .i64 s.secs, .slice p n c], .int .i64 0] ∧ Ops g p n s.ops) ∨
  ((∀ s, ¬ ScrIs data s) ∧ v = .tuple #[.agg zScr.toArray, .int .i64 231])
theorem scr_split {s : ScrP} {data : Bs} (k : ScrIs data s) : splitB data = some (scrTs s) := by
  rw [← k.2, scrB, split_join (by have := k.1.len; simp [scrTs]; omega) (scrTs_lt k.1)]
theorem len2 {t : Bs} (h : t.length = 2) : ∃ x y, t = [x, y] := by
  match t, h with
  | [x, y], _ => exact ⟨x, y, rfl⟩
theorem scrOf_of {data : Bs} {x y : Nat} {ts : List Bs} {os : List OpP} (h : splitB data = some ([x, y] :: ts)) (ho : opsOf ts = some os) : scrOf data = some ⟨(x + 256 * y : Nat), os⟩ := by
  unfold scrOf
  rw [h]
  simp only []
  rw [ho]
  rfl
section
variable {K : Xs} {h : AH}
theorem readSpec (kk : KRead K) {p : Option Addr} {n c : Nat} {data : Bs} (T : Text h p n data) (C : CutP Tryz.prog h 5 p n c) (hb : ∀ a, p = some a → a.block < h.next) :
    Wf Tryz.prog K 13 [.slice p n c] h fun v h' => ReadQ data v h' ∧ Old h h' := by
  have hre : reachBytes = 140737488351232 := rfl
  have hrm : roomMax = 140737488355328 := rfl
  refine vc_script_Read kk.read _ _ _ h _ fun g0 e0 => ?_
  have o0 := old_of_alloc e0
  have n0 := next_of_alloc e0
  refine (splitSpec2 kk.split kk.length (T.old o0) (C.old o0 hb) fun a ha => by have := hb a ha; omega).mono ?_
  rintro _ g2 ⟨hsp, o2⟩
  have oh2 := o0.trans o2
  have c0 : g2.get h.next = some (.cells zScr 24 false) := (o2.2 _ (by omega)).trans (get_of_alloc e0)
  have out : ∀ {g : AH}, Old h g → g.get h.next = some (.cells zScr 24 false) → (∀ s, ¬ ScrIs data s) → (List.length zScr = 2) ∧ ∃ g' : AH, stN g h.next 0 zScr = some g' ∧ ∃ (i : Int) (p : Option Addr) (n c : Nat), ldN g' h.next 0 2 = some [.int .i64 i, .slice p n c] ∧ ReadQ data (.tuple #[.agg #[.int .i64 i, .slice p n c], .int .i64 231]) g' ∧ Old h g' := fun {g} o w z =>
    ⟨rfl, _, stN_all w rfl, _, _, _, _, ldN_all (get_set_self _ _ _) rfl, .inr ⟨z, rfl⟩, ⟨o.1, fun b hb => by rw [get_set_ne (by omega)]; exact o.2 b hb⟩⟩
  cases hts : splitB data with
  | none =>
    rw [hts] at hsp
    obtain rfl : _ = _ := hsp
    exact ⟨_, _, _, _, rfl, fun z => absurd z (by decide), fun _ => out oh2 c0 fun s k => by rw [scr_split k] at hts; cases hts⟩
  | some ts =>
    rw [hts] at hsp
    obtain ⟨p3, c5, rfl, RG⟩ := hsp
    refine ⟨_, _, _, _, rfl, fun _ => ⟨fun h1 => out oh2 c0 fun s k => ?_, fun h1 => ⟨fun h201 => out oh2 c0 fun s k => ?_, fun h201 g17 e17 => ?_⟩⟩, fun z => absurd rfl z⟩
    · rw [scr_split k] at hts; cases hts; simp [scrTs] at h1; omega
    · rw [scr_split k] at hts; cases hts; have := k.1.len; simp [scrTs] at h201; omega
    obtain ⟨t0, ts', rfl⟩ : ∃ t0 ts', ts = t0 :: ts' := by
      cases ts with
      | nil => simp at h1
      | cons a l => exact ⟨a, l, rfl⟩
    have isTs : ∀ s, ScrIs data s → t0 = byB 2 s.secs.toNat ∧ ts' = s.ops.map opB := fun s k => by
      have := hts
      rw [scr_split k] at this
      simp only [scrTs, Option.some.injEq, List.cons.injEq] at this
      exact ⟨this.1.symm, this.2.symm⟩
    have hlen : (t0 :: ts').length = ts'.length + 1 := rfl
    have o17 := old_of_alloc e17
    have n17 := next_of_alloc e17
    have oh17 := oh2.trans o17
    obtain ⟨b3, rfl, lb, ub, p0, m0, d0, l0, T0⟩ := RG.text (i := 0) (by simp)
    simp only [List.getElem_cons_zero] at T0
    have m : ∀ {g : AH}, Old g2 g → ∀ {i : Nat} {v : Value}, ld1 g2 b3 i = some v → ld1 g b3 (0 + i) = some v := fun {g} o {i} {v} q => by rw [Nat.zero_add, ← q]; unfold ld1; rw [o.2 b3 ub]
    have S17 : Shows g17 (some ⟨g2.next, 0, none⟩) 1 1 (natC .i64 [2]) := shows_new (cs := natC .i64 [2]) e17 rfl
    have c17 : g17.get h.next = some (.cells zScr 24 false) := (o17.2 _ (by have := o2.1; omega)).trans c0
    have T0' := T0.old o17
    refine derefP_at ⟨by decide, by omega, p0, m0, d0, m o17 l0, ?_⟩
    by_cases h3 : m0 = 2
    rotate_left
    · refine (fieldGetBad kk.get kk.scr.room S17 (by decide) (by decide) (by simpa using h3)).mono ?_
      rintro _ _ ⟨rfl, rfl⟩
      refine ⟨_, _, _, _, rfl, fun z => absurd z (by decide), fun _ => out oh17 c17 fun s k => ?_⟩
      have := T0.1.2.1
      rw [(isTs s k).1, byB_len] at this
      exact h3 this
    subst h3
    obtain ⟨x, y, rfl⟩ := len2 T0.1.2.1.symm
    obtain ⟨b0, off0, rfl⟩ : ∃ b off, p0 = some ⟨b, off, none⟩ := by
      rcases T0.1.2.2.2.1.2 with q | ⟨b, off, al, e, ro, q, -⟩
      · omega
      · exact ⟨b, off, q⟩
    have C0 : CutOk Tryz.prog g17 5 b0 2 d0 := by
      rcases T0'.2.1 with ⟨q, -⟩ | ⟨b, off, q, k⟩
      · cases q
      · cases q; exact k
    refine (fieldGet kk.get kk.scr.room S17 T0'.1.2.2.2.1 (T0'.2.2 _ rfl).2 C0 (by decide) (by decide) T0'.1.2.2.2.2 rfl).mono ?_
    rintro _ g24 ⟨⟨b25, rfl, q25, S25⟩, o24⟩
    rw [show dec [2] [x, y] = [x + 256 * y] by simp [dec, deB]] at S25
    have hx : x < 256 := T0.1.2.2.2.2 x (by simp)
    have hy : y < 256 := T0.1.2.2.2.2 y (by simp)
    obtain ⟨bq, oq, eq, hv⟩ := S25.get (i := 0) (by decide)
    cases eq
    have o224 := o17.trans o24
    refine ⟨_, _, _, _, rfl, fun _ => derefP_at ⟨by decide, by decide, _, hv, fun i32 e32 g33 e33 => ?_⟩, fun z => absurd rfl z⟩
    have e32 := i64w e32 (by omega) (by omega)
    subst e32
    obtain ⟨g34, k34, n34, o34, v34⟩ := put_new e33 (vs := [.int .i64 ((x + 256 * y : Nat) : Int), .slice none 0 0]) rfl
    have w34 := (v34 [] (fun c hc => by cases hc)).1
    have o234 := o224.trans o34
    have oh34 := oh2.trans o234
    have C3 : CutP Tryz.prog g34 26 (some ⟨b3, 0, none⟩) (ts'.length + 1) c5 := by
      obtain ⟨-, cells, G, -⟩ := RG
      exact (G.cutP (by simp only [openCap]; simp at h201 ⊢; omega)).old o234 fun a ha => by cases ha; exact ub
    obtain ⟨p35, c37, k35, hp35, -, -⟩ := cutP eTexts (by simp) C3 (some 1) none (by simp [endN]) (Nat.le_refl _)
    obtain ⟨off', rfl, hoff⟩ := hp35 b3 0 rfl
    refine ⟨rfl, g34, k34, _, ts'.length, c37, by simpa [endN, endV] using k35, ?_⟩
    generalize hsb : g24.next = sb at *
    have l2b : g2.next ≤ sb := by rw [← hsb]; exact o224.1
    have c34 : g34.get h.next = some (.cells zScr 24 false) := (o234.2 _ (by have := o2.1; omega)).trans c0
    refine ⟨fun i42 k g => ∃ j : Nat, i42 = j ∧ j ≤ ts'.length ∧ ts'.length - j = k ∧ Old g2 g ∧ sb < g.next ∧ ∃ done p5 n5 c5, opsOf (ts'.take j) = some done ∧ g.get sb = some (.cells [.int .i64 ((x + 256 * y : Nat) : Int), .slice p5 n5 c5] 24 false) ∧ n5 = done.length ∧ OpsG (sb + 1) g p5 n5 c5 done, ⟨_, 0, rfl, Nat.zero_le _, rfl, o234, by omega, [], none, 0, 0, rfl, w34, rfl, OpsG.nil _ _⟩, ?_⟩
    rintro k39 g40 i42 ⟨j, rfl, hj, rfl, o40, lt40, done, p5, n5, c5', hdone, w40, rfl, OG⟩
    have oh40 := oh2.trans o40
    have c40 : g40.get h.next = some (.cells zScr 24 false) := (o40.2 _ (by have := o2.1; omega)).trans c0
    have dl := opsOf_len hdone
    rw [List.length_take] at dl
    refine ⟨fun z => ?_, fun z => ?_⟩
    · have hj' : j < ts'.length := by omega
      obtain ⟨_, e1, -, -, pj, mj, dj, lj, Tj⟩ := RG.text (i := j + 1) (by simp; omega)
      cases e1
      simp only [List.getElem_cons_succ] at Tj
      have ho1 : off' = 1 := by have := hoff (by simp [endN]; omega); simp [endN] at this; omega
      have lj' := m o40 lj
      have tk : ts'.take (j + 1) = ts'.take j ++ [ts'[j]] := List.take_succ_eq_append_getElem hj'
      have Tj40 := Tj.old o40
      refine derefP_at ⟨by omega, z, pj, mj, dj, by rw [Int.toNat_natCast, ho1]; rw [show 1 + j * 1 = 0 + (j + 1) by omega]; exact lj', (opReadSpec kk Tj40.1 Tj40.2.1 fun a ha => (Tj40.2.2 a ha).2).mono ?_⟩
      rintro _ g49 ⟨hq, o49⟩
      have oh49 := oh40.trans o49
      have o249 := o40.trans o49
      rcases hq with ⟨o, pd, nd, cd, pk, nk, ck, ho, rfl, td, tkp, s1, s2, bd, bk⟩ | ⟨hno, rfl⟩
      · refine ⟨_, _, _, _, _, _, _, _, _, _, _, rfl, fun g61 e61 => ?_⟩
        obtain ⟨g62, k62, n62, o62, v62⟩ := put_new e61 (vs := [.int .i64 o.kind, .string o.name, .string o.to, .int .i64 o.n, .slice pd nd cd, .slice pk nk ck]) rfl
        have w62 := v62 [] (fun c hc => by cases hc)
        have o4062 := o49.trans o62
        have ws62 : g62.get sb = _ := (o4062.2 _ lt40).trans w40
        refine ⟨rfl, g62, k62, fun _ => ⟨_, _, _, ld1_at ws62 rfl, _, _, _, _, _, _, _, _, _, _, w62.ld rfl, fun g76 e76 => ?_⟩, fun z => absurd rfl z⟩
        have ap5 : ∀ b, g40.next ≤ b → apart p5 b := fun b hb => by
          obtain ⟨-, cells, G, -⟩ := OG
          rcases G.2 with ⟨rfl, -⟩ | ⟨b', rfl, q3, q4, -⟩
          · exact trivial
          · show b' ≠ b; omega
        obtain ⟨p77, c79, g80, k80, OG80, o80, f80⟩ := (OG.old o4062).push (by have := o4062.1; omega) (o := o) ⟨pd, nd, cd, pk, nk, ck, rfl, td.old o62, tkp.old o62, s1, s2, fun a ha => ⟨by have := (bd a ha).1; omega, by have := (bd a ha).2; have := o62.1; omega, ap5 _ (bd a ha).1⟩, fun a ha => ⟨by have := (bk a ha).1; omega, by have := (bk a ha).2; have := o62.1; omega, ap5 _ (bk a ha).1⟩⟩ e76 (by omega)
        have ws80 : g80.get sb = _ := (o80.2 _ (by omega)).trans ws62
        refine ⟨p77, _, c79, g80, k80, _, st1_of ws80 (by simp), fun i82 e82 => ?_⟩
        have e82 := i64w e82 (by omega) (by omega)
        refine ⟨_, by omega, j + 1, by rw [e82]; rfl, hj', rfl, ⟨by have := o40.1; have := o4062.1; have := o80.1; show g2.next ≤ g80.next; omega, fun b hb => by rw [get_set_ne (by omega), o80.2 b (by omega), o4062.2 b (by have := o40.1; omega), o40.2 b hb]⟩, by have := o80.1; have := o4062.1; show sb < g80.next; omega, done ++ [o], p77, _, c79, ?_, get_set_self _ _ _, by simp, OG80.kept (Nat.le_refl _) fun b hb _ => get_set_ne (by omega)⟩
        rw [tk, opsOf_app, hdone, ho]
      · refine ⟨_, _, _, _, _, _, _, _, _, _, _, rfl, fun g61 e61 => ?_⟩
        obtain ⟨g62, k62, n62, o62, v62⟩ := put_new e61 (vs := zOp) rfl
        have c62 : g62.get h.next = some (.cells zScr 24 false) := ((o249.trans o62).2 _ (by have := o2.1; omega)).trans c0
        refine ⟨rfl, g62, k62, fun z => absurd z (by decide), fun _ => out (oh49.trans o62) c62 fun s k => ?_⟩
        have hs := (isTs s k).2
        have hjs : j < s.ops.length := by rw [hs] at hj'; simpa using hj'
        exact hno _ (k.1.ops _ (List.getElem_mem hjs)) (by simp [hs])
    · obtain rfl : j = ts'.length := by omega
      rw [List.take_length] at hdone
      have hscr := scrOf_of hts hdone
      have hn96 : done.length * 96 ≤ reachBytes := by simp at h201; omega
      refine ⟨_, _, _, _, ldN_all w40 rfl, (bytesSpec kk.scr (s := ⟨(x + 256 * y : Nat), done⟩) (OG.ops hn96)).mono ?_⟩
      rintro _ g93 ⟨hq, o93⟩
      have oh93 := oh40.trans o93
      have c93 : g93.get h.next = some (.cells zScr 24 false) := ((o40.trans o93).2 _ (by have := o2.1; omega)).trans c0
      have isS : ∀ s, ScrIs data s → s = ⟨(x + 256 * y : Nat), done⟩ := fun s k => by
        have := scrOf_B k.1
        rw [k.2, hscr] at this
        exact (Option.some.inj this).symm
      rcases hq with ⟨hok, pb, cb, rfl, Tb⟩ | ⟨hno, rfl⟩
      · refine ⟨_, _, _, _, rfl, fun _ => (equalSpec kk.equal Tb.1 (T.old oh93)).mono ?_, fun z => absurd rfl z⟩
        rintro _ _ ⟨⟨rfl, hE⟩ | ⟨rfl, hE⟩, rfl⟩
        · have ws93 : g93.get sb = _ := (o93.2 _ lt40).trans w40
          refine .inl ⟨rfl, _, _, _, _, ldN_all ws93 rfl, rfl, _, stN_all c93 rfl, _, _, _, _, ldN_all (get_set_self _ _ _) rfl, .inl ⟨_, _, _, _, ⟨hok, hE⟩, rfl, ?_⟩, ⟨oh93.1, fun b hb => by rw [get_set_ne (by omega)]; exact oh93.2 b hb⟩⟩
          exact OpsG.ops (OpsG.kept (OG.old o93) (Nat.le_refl _) fun b hb _ => get_set_ne (by have := oh2.1; omega)) hn96
        · exact .inr ⟨rfl, out oh93 c93 fun s k => hE (by have := isS s k; subst this; exact k.2)⟩
      · exact ⟨_, _, _, _, rfl, fun z => absurd z (by decide), fun _ => out oh93 c93 fun s k => hno (by have := isS s k; subst this; exact k.1)⟩
end
end Go.Am
