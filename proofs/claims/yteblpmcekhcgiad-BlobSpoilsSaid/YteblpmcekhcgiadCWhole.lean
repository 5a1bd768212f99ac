/-
  A TEXT IS SAVED, all of it: its bytes, its nodes, level by level.
-/
import Derived.Test.YteblpmcekhcgiadCUp
set_option linter.unusedVariables false
set_option linter.unusedSimpArgs false
set_option maxRecDepth 100000
namespace Go.Am
open Go.Proofs
theorem ups_seventh {a : Nat} (ha : a ≤ 512) : (ups a).sum ≤ a / 7 + 3 := by
  by_cases h1 : 1 < a
  · rw [ups_step h1, List.sum_cons]
    by_cases h2 : 1 < (a + 7) / 8
    · rw [ups_step h2, List.sum_cons]
      by_cases h3 : 1 < ((a + 7) / 8 + 7) / 8
      · rw [ups_step h3, List.sum_cons, ups_end (show ¬ 1 < (((a + 7) / 8 + 7) / 8 + 7) / 8 by omega)]
        simp only [List.sum_nil]
        omega
      · rw [ups_end h3]
        simp only [List.sum_nil]
        omega
    · rw [ups_end h2]
      simp only [List.sum_nil]
      omega
  · rw [ups_end h1]; simp
theorem needL_le {n : Nat} (h1 : 1 ≤ n) (h2 : n ≤ 65535) : (n + 127) / 128 + (ups ((n + 127) / 128)).sum = needL (n : Nat) ∧ needL (n : Nat) ≤ 600 ∧ (n + 127) / 128 ≤ 512 ∧ 1 ≤ (n + 127) / 128 := by
  unfold needL
  rw [levels_eq h1 h2, List.sum_cons]
  have := ups_seventh (a := (n + 127) / 128) (by omega)
  omega
theorem CutOk.keep {P : Program} {h h' : AH} {elem : TypeId} {b n c : Nat} (k : CutOk P h elem b n c) (hb : h'.get b = h.get b) : CutOk P h' elem b n c := by
  rcases k with k | ⟨h1, cs, e, ro, h2, h3⟩
  · exact .inl k
  · exact .inr ⟨h1, cs, e, ro, by rw [hb]; exact h2, h3⟩
theorem Grow.cutOk {P : Program} {lim : Nat} {h : AH} {elem : TypeId} {sz : Nat} {b n c : Nat} {cs : List Value} (g : Grow lim h elem sz (some ⟨b, 0, none⟩) n c cs) (hn : n < openCap) : CutOk P h elem b n c := by
  rcases g.2 with ⟨z, -⟩ | ⟨b', hp, hl, hb, hg, hc⟩
  · cases z
  · simp only [Option.some.injEq, Addr.mk.injEq, and_true] at hp
    subst hp
    rcases hc with rfl | rfl
    · exact .inr ⟨rfl, cs, elem, false, hg, rfl⟩
    · exact .inl ⟨Nat.le_refl _, hn⟩
theorem Grow.some {lim : Nat} {h : AH} {elem : TypeId} {sz : Nat} {p : Option Addr} {n c : Nat} {cs : List Value} (g : Grow lim h elem sz p n c cs) (hn : 0 < n) : ∃ b, p = some ⟨b, 0, none⟩ := by
  rcases g.2 with ⟨-, z, -⟩ | ⟨b', hp, -⟩
  · omega
  · exact ⟨b', hp⟩
section
variable {K : Xs} {h : AH} {p : Nat} {F : List Nat} {d m : Nat} {W : Nat} {nw : List (List Nat)} {M : List Nat} {st : Nat} {ba : Int}
theorem blobSave (kk : KSave K) (B : PO h p F d m W nw M st ba) (hw : W + 2000 < 100000) (hst : StOk st) {tb toff n c : Nat} {text : List Nat} (hn1 : 1 ≤ n) (hn2 : n ≤ 65535) (T : Shows h (some ⟨tb, toff, none⟩) n 1 (natC .u8 text)) (C : CutOk Try.prog h 5 tb n c) (tF : tb ∉ F) (tl : tb < h.next) (hb : ∀ x ∈ text, x < 256)
    {ab aoff na ca : Nat} {as' : List Nat} (S : Shows h (some ⟨ab, aoff, none⟩) na 1 (natC .i64 as')) (CA : CutOk Try.prog h 3 ab na ca) (aF : ab ∉ F) (al : ab < h.next) (hl : as'.length = needL (n : Nat)) (hM : ∀ a ∈ as', M[a]? = some 2) (ha : ∀ a ∈ as', 4 ≤ a ∧ a < nw.length) (hnw : nw.length ≤ 1024) (hnd : as'.Nodup) :
    Wf Try.prog K 11 [.pointer (some ⟨p, 0, none⟩), .slice (some ⟨tb, toff, none⟩) n c, .slice (some ⟨ab, aoff, none⟩) na ca] h fun v h' => ∃ root D nw' W' F', v = .tuple #[qV root, .int .i64 0] ∧ QOk root ∧ root ≠ hole ∧ loadQ nw' root n text (root :: D) ∧ ((root :: D).map (·.1)).Perm as' ∧ as'.getLast? = some root.1 ∧ (∀ q ∈ root :: D, QOk q ∧ q ≠ hole) ∧ nw'.length = nw.length ∧ W' ≤ W + 600 ∧ PO h' p F' d m W' nw' M st ba ∧ Fr F h h' F' := by
  have hF := B.lt
  have hna : na = as'.length := by have := S.1; rw [natC_len] at this; omega
  have hxl : text.length = n := by have := T.1; rw [natC_len] at this; omega
  obtain ⟨q1, q2, q3, q4⟩ := needL_le hn1 hn2
  refine vc_blob_Save kk.bSave _ _ _ _ _ _ _ h _ fun g0 e0 => (needSpec kk.bNeed kk.bLevels kk.bUp (n : Nat) g0).mono ?_
  rintro _ g2 ⟨rfl, o2⟩
  have o0 := old_of_alloc e0
  have n0 := next_of_alloc e0
  have oh := o0.trans o2
  have c2 : g2.get h.next = _ := (o2.2 _ (by omega)).trans (get_of_alloc e0)
  have hl2 : h.next < g2.next := by have := o2.1; omega
  refine ⟨_, rfl, fun z => absurd z (by omega), fun _ => ⟨fun _ => ?_, fun z => absurd (by omega) z⟩⟩
  have B2 := B.old oh
  have hnF : ∀ {F' : List Nat} {g : AH}, Fr F h g F' → ∀ c, c < h.next + 1 → c ∉ F → c ∉ F' → True := fun _ _ _ _ _ => trivial
  refine (saveText kk B2 (by omega) hn1 hn2 (T.old oh) (C.old oh tl) tF (by omega) hb (S.old oh) (fun a e => by cases e; exact aF) (by omega) hM (by omega)).mono ?_
  have e128 : (n + 128 - 1) / 128 = (n + 127) / 128 := by omega
  rw [e128]
  generalize hLe : (n + 127) / 128 = L at q1 q3 q4
  rintro _ g9 ⟨p10, c12, F9, rfl, B9, f9, G9, hp9⟩
  have f9h := (oh.fr F).trans f9
  have abF : ∀ {F' : List Nat} {g : AH}, Fr F h g F' → ab ∉ F' := fun f z => (f.2.2 _ z).elim aF (fun y => by omega)
  have c9 : g9.get h.next = _ := (f9.2.1 _ hl2 (fun z => absurd (hF _ z) (Nat.lt_irrefl _))).trans c2
  have hn9 : h.next ∉ F9 := fun z => (f9.2.2 _ z).elim (fun y => absurd (hF _ y) (Nat.lt_irrefl _)) (fun y => by omega)
  have u9 := Up.begin (st := st) hn1 hn2 hLe.symm hxl hb hst hl hnd (nw := nw) (fun a h => ⟨(ha a h).1, by have := (ha a h).2; omega, (ha a h).2⟩)
  have hml : (mkP st (as'.take L) (blks text L)).length = L := by
    have htl : (as'.take L).length = L := by rw [List.length_take]; omega
    rw [mkP_len _ _ _ (by rw [htl, blks_len])]
    exact htl
  have S9 := S.fr f9h (fun a e => by cases e; exact aF)
  have CA9 : CutOk Try.prog g9 3 ab na ca := CA.keep (f9h.2.1 ab al aF)
  obtain ⟨o14, c16, k14, ho14, CA14⟩ := cut_lo eIntC (by simp) (h := g9) (b := ab) (off := aoff) (lo := L) CA9 (by omega)
  refine ⟨_, _, _, _, rfl, _, _, _, k14, ?_⟩
  have S14 := S9.cut (off2 := o14) (lo := L) (by omega) ho14
  have edrop : ∀ (l : List Nat) (k : Nat), (natC .i64 l).drop (k * 1) = natC .i64 (l.drop k) := fun l k => by unfold natC; rw [Nat.mul_one, ← List.map_drop]
  rw [edrop] at S14
  refine ⟨fun p21 n22 c23 p24 n25 c26 i27 k g => ∃ (level : List Tr3) (at' : List Nat) (nwc : List (List Nat)) (W' : Nat) (F' : List Nat) (o21 b24 : Nat), i27 = 0 ∧ level.length = k ∧ n25 = level.length ∧ p24 = some ⟨b24, 0, none⟩ ∧ p21 = some ⟨ab, o21, none⟩ ∧ Up n text as' nwc level at' ∧ PO g p F' d m W' nwc M st ba ∧ W' + at'.length = W + as'.length ∧ nwc.length = nw.length ∧ Fr F h g F' ∧
    g.get h.next = some (.cells [.int .i64 0, .int .u64 0, .int .u32 0] 36 false) ∧ h.next ∉ F' ∧ h.next < g.next ∧ Grow (h.next + 1) g 36 3 p24 n25 c26 (ptr3 level) ∧ b24 ∉ F' ∧ Shows g p21 n22 1 (natC .i64 at') ∧ CutOk Try.prog g 3 ab n22 c23, ?_, ?_⟩
  · obtain ⟨b24, rfl⟩ := G9.some (by omega)
    exact ⟨_, _, _, _, _, F9, _, b24, rfl, rfl, hml.symm, rfl, rfl, u9, B9, by rw [List.length_drop]; omega, wr_len _ _ _, f9h, c9, hn9, by have := f9.1; omega, G9.weak (by omega), hp9 _ rfl, S14, CA14⟩
  · rintro k18 g19 p21 n22 c23 p24 n25 c26 i27 ⟨level, at', nwc, W', F', o21, b24, rfl, rfl, rfl, rfl, rfl, u, B19, hW, hlen, f19, c19, n19, l19, G19, hb24, S19, CA19⟩
    refine ⟨fun _ => ⟨fun hlt => ?_, fun hlt => ⟨fun _ => ?_, fun z => absurd rfl z⟩⟩, fun z => absurd rfl z⟩
    · have hlt : 1 < level.length := by omega
      have hat : ((level.length + 8 - 1) / 8) + (ups ((level.length + 8 - 1) / 8)).sum = at'.length := by
        obtain ⟨S', D', P', U', -, -, -, -, -, -, z, -⟩ := u
        rw [z, ups_step hlt, List.sum_cons, show (level.length + 8 - 1) / 8 = (level.length + 7) / 8 by omega]
      have hati : at'.length ≤ as'.length := by
        obtain ⟨-, -, -, U, -, -, z, -⟩ := u
        rw [z, List.length_append, List.length_append]; omega
      have hlv : level.length ≤ as'.length := by
        obtain ⟨-, -, -, U, -, -, z, -⟩ := u
        rw [z, List.length_append, List.length_append, List.length_map]; omega
      have hin : ∀ a ∈ at', a ∈ as' := by
        obtain ⟨-, -, -, U, -, -, z, -⟩ := u
        intro a h
        rw [z]
        exact List.mem_append_right _ (List.mem_append_right _ h)
      have hokl : ∀ q ∈ level, QOk q := by
        obtain ⟨S', D', P', U', -, -, -, -, z, -⟩ := u
        exact fun q hq => (z q (List.mem_append_left _ hq)).1
      have hn22 : n22 = at'.length := by have := S19.1; rw [natC_len] at this; omega
      have hF19 := B19.lt
      refine (saveNodes kk B19 (by omega) (by omega) (by omega) G19.shows (G19.cutOk (by unfold openCap; omega)) hb24 (by have := (G19.block rfl).2; exact this) hokl S19 (fun a e => by cases e; exact abF f19) (by omega) (fun a h => hM a (hin a h)) (by omega)).mono ?_
      rintro _ g29 ⟨p30, c32, F29, rfl, B29, f29, G29, hp29⟩
      have u29 := u.step (st := st) hlt (by omega : (level.length + 8 - 1) / 8 = (level.length + 7) / 8) hst hnd (fun a h => ⟨(ha a h).1, by have := (ha a h).2; omega, by rw [hlen]; exact (ha a h).2⟩)
      generalize hNe : (level.length + 8 - 1) / 8 = N at hat B29 G29 u29
      have hNl : N < level.length := by omega
      have hN1 : 1 ≤ N := by omega
      have f29h := f19.trans f29
      have CA29 : CutOk Try.prog g29 3 ab n22 c23 := CA19.keep (f29.2.1 ab (by have := f19.1; omega) (abF f19))
      obtain ⟨o34, c36, k34, ho34, CA34⟩ := cut_lo eIntC (by simp) (h := g29) (b := ab) (off := o21) (lo := N) CA29 (by omega)
      have S34 := (S19.fr f29 (fun a e => by cases e; exact abF f19)).cut (off2 := o34) (lo := N) (by omega) ho34
      rw [edrop] at S34
      obtain ⟨b30, rfl⟩ := G29.some (by omega)
      have hml2 : (mkP st (at'.take N) (nds level N)).length = N := by
        have htl : (at'.take N).length = N := by rw [List.length_take]; omega
        rw [mkP_len _ _ _ (by rw [htl, nds_len])]
        exact htl
      refine ⟨_, N, _, _, rfl, _, _, _, k34, N, hNl, _, _, _, _, F29, _, b30, rfl, hml2, hml2.symm, rfl, rfl, u29, B29, by rw [List.length_drop]; omega, by rw [wr_len]; exact hlen, f29h, ?_, ?_, by have := f29.1; omega, G29.weak (by omega), hp29 _ rfl, S34, CA34⟩
      · exact (f29.2.1 _ l19 n19).trans c19
      · exact fun z => (f29.2.2 _ z).elim n19 (fun y => by omega)
    · obtain ⟨root, D, rfl, r1, r2, r3, r4, r5, r6⟩ := u.fin (by omega)
      obtain ⟨b9, o10, e9, hld, -⟩ := G19.shows.getN (i := 0) (by simp)
      cases e9
      rw [ptr3_get [root] 0 (by simp)] at hld
      have nr := near_set h.next g19 (.cells [.int .i64 (root.1 : Nat), .int .u64 (root.2.1 : Nat), .int .u32 (root.2.2 : Nat)] 36 false)
      refine derefP_at ⟨by omega, by simp, _, _, _, hld, rfl, _, stN_all c19 rfl, _, _, _, ldN_all (get_set_self _ _ _) rfl, root, D, nwc, W', F', rfl, r1, r2, r3, r4, r5, r6, hlen, by omega, B19.nearN nr n19, f19.near_new nr (Nat.le_refl _)⟩
end
end Go.Am
