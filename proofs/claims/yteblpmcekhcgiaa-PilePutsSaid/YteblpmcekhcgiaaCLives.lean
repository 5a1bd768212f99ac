/-
  WHAT COUNTS ISN'T OVERWRITTEN: the law of the pile, as the abstract machine runs it.
-/
import Derived.Test.YteblpmcekhcgiaaCPile
import Derived.Test.YteblpmcekhcgiaaVPileL
set_option linter.unusedVariables false
set_option linter.unusedSimpArgs false
namespace Go.Am
open Go.Proofs
theorem new_free : (newM 64).count 1 = 60 := by kernel_rfl
theorem new_later : (newM 64).count 3 = 0 := by kernel_rfl
theorem count_setN {M : List Nat} {i a b : Nat} (hi : M[i]? = some a) (c : Nat) : (M.set i b).count c = M.count c - (if a = c then 1 else 0) + (if b = c then 1 else 0) := by
  obtain ⟨hlt, he⟩ := List.getElem?_eq_some_iff.1 hi
  rw [List.count_set hlt, he]
  simp only [beq_iff_eq]
theorem count_pos {M : List Nat} {i a : Nat} (hi : M[i]? = some a) : 0 < M.count a := List.count_pos_iff.2 (List.mem_of_getElem? hi)
theorem count_freed : ∀ M : List Nat, (M.map freed).count 1 = M.count 1 + M.count 3
  | [] => rfl
  | x :: M => by
    have ih := count_freed M
    simp only [List.map_cons, List.count_cons, ih]
    unfold freed
    by_cases h3 : x = 3
    · subst h3; simp; omega
    · by_cases h1 : x = 1
      · subst h1; simp; omega
      · rw [if_neg h3]; simp [h1, h3]
theorem count_freed3 : ∀ M : List Nat, (M.map freed).count 3 = 0
  | [] => rfl
  | x :: M => by
    have ih := count_freed3 M
    simp only [List.map_cons, List.count_cons, ih]
    unfold freed
    by_cases h3 : x = 3
    · subst h3; simp
    · rw [if_neg h3]; simp [h3]
/-- Pointers that were put: of each the sector and the sum. -/
def ptrsC (b : Int) (ps : List (Nat × Nat)) : List Value := (ps.map fun q => [Value.int .i64 q.1, Value.int .u64 b, Value.int .u32 q.2]).flatten
theorem ptrsC_len (b : Int) (ps : List (Nat × Nat)) : (ptrsC b ps).length = ps.length * 3 := by
  induction ps with
  | nil => rfl
  | cons q ps ih => simp only [ptrsC, List.map_cons, List.flatten_cons, List.length_append, List.length_cons, List.length_nil] at *; omega
theorem ptrsC_app (b : Int) (ps qs : List (Nat × Nat)) : ptrsC b (ps ++ qs) = ptrsC b ps ++ ptrsC b qs := by simp [ptrsC]
theorem ptrsC_get (b : Int) : ∀ (ps : List (Nat × Nat)) (i : Nat) (hi : i < ps.length), ((ptrsC b ps).drop (i * 3)).take 3 = [.int .i64 (ps[i].1 : Nat), .int .u64 b, .int .u32 (ps[i].2 : Nat)]
  | [], i, hi => absurd hi (Nat.not_lt_zero _)
  | q :: ps, 0, hi => rfl
  | q :: ps, i + 1, hi => by
    have e : ptrsC b (q :: ps) = [.int .i64 (q.1 : Nat), .int .u64 b, .int .u32 (q.2 : Nat)] ++ ptrsC b ps := rfl
    rw [e, show (i + 1) * 3 = 3 + i * 3 by omega, List.drop_append]
    simp only [List.length_cons, List.length_nil]
    rw [List.drop_eq_nil_of_le (by simp), List.nil_append, show 3 + i * 3 - (0 + 1 + 1 + 1) = i * 3 by omega]
    exact ptrsC_get b ps i (by simpa using hi)
theorem set_same : ∀ {M : List Nat} {i a : Nat}, M[i]? = some a → M.set i a = M
  | _ :: _, 0, _, h => by simp only [List.getElem?_cons_zero, Option.some.injEq] at h; rw [← h]; rfl
  | x :: M, i + 1, a, h => by rw [List.set_cons_succ, set_same (M := M) (by simpa using h)]
theorem cntA (j : Nat) : 60 - j - (if 1 = 1 then 1 else 0) + (if 2 = 1 then 1 else 0) = 60 - (j + 1) := by simp; omega
theorem nodup_get {l : List Nat} (hn : l.Nodup) {i j : Nat} {a : Nat} (hi : l[i]? = some a) (hj : l[j]? = some a) : i = j := by
  obtain ⟨hi', ei⟩ := List.getElem?_eq_some_iff.1 hi
  obtain ⟨hj', ej⟩ := List.getElem?_eq_some_iff.1 hj
  exact (List.getElem_inj hn).1 (ei.trans ej.symm)
section
variable {K : Xs} {h : AH}
theorem ptr_wf {a s : Nat} {b : Int} (ha : a < 1024) (hb : 0 ≤ b ∧ b ≤ 1000000) (hs : s < 4294967296) : PtrWf a b s := by
  refine ⟨wf64 (by omega) (by omega), ?_, ?_⟩
  · simp [Lit.wf, IntKind.min, IntKind.max, IntKind.signed, IntKind.bits]; omega
  · simp [Lit.wf, IntKind.min, IntKind.max, IntKind.signed, IntKind.bits]; omega
theorem livesTrue (hk : K 4 = none) (ha : K 7 = some (.sum xTrue)) (k1 : K 8 = none) (k2 : K 27 = none) (k3 : K 28 = none) (k4 : K 26 = none)
    (kP : K 9 = none) (kw : K 30 = none) (kD : K 15 = none) (kC : K 14 = none) (kM : K 16 = none) (kB : K 18 = none) (kS : K 19 = none)
    (mA : K 29 = none) (mi : K 52 = none) (ms : K 51 = none) (mc : K 54 = none) (mF : K 31 = none) (mL : K 36 = none) (mC : K 35 = none) (mN : K 17 = none)
    (dW : K 53 = none) (dc : K 55 = none) (dh : K 32 = none) (ds : K 65 = none) (sO : K 34 = none) (sM : K 56 = some (.sum xMore))
    (old now : Int) (h : AH) : Wf Try.prog K 4 [.int .i64 old, .int .i64 now] h fun v _ => v = .bool true := by
  refine vc_aquiferlaw09_PileLives hk _ _ h _ (Wf_sum ha (v := .bool true) (h' := h) rfl (Nat.le_refl _) (.inl ⟨rfl, fun _ => rfl, fun q1 => ⟨fun _ => rfl, fun q2 => ⟨fun _ => rfl, fun q3 => ⟨fun _ => rfl, fun q4 => ?_⟩⟩⟩⟩))
  obtain ⟨A, rfl⟩ : ∃ A : Nat, old = A := ⟨old.toNat, by omega⟩
  obtain ⟨B, rfl⟩ : ∃ B : Nat, now = B := ⟨now.toNat, by omega⟩
  refine (made k1 k2 k3 k4 ms 64 (by decide) h).mono ?_
  rintro _ g3 ⟨p, F, d, m, Fd, rfl, P3, -, -⟩
  refine ⟨_, rfl, fun g5 e5 => ?_⟩
  have o5 := old_of_alloc e5
  have n5 := next_of_alloc e5
  -- the first loop
  refine ⟨fun pf n c i k g => ∃ (j : Nat) (F : List Nat) (d m : Nat) (Fd : List Nat) (nw : List (List Nat)) (M : List Nat) (ps : List (Nat × Nat)), i = j ∧ j ≤ A ∧ A - j = k ∧ PileO g p F d m Fd j nw M 1 0 ∧ nw.length = 64 ∧
      Grow 0 g 33 3 pf n c (ptrsC 1 ps) ∧ (∀ a, pf = some a → a.block ∉ F) ∧ ps.length = j ∧ M.count 1 = 60 - j ∧ M.count 3 = 0 ∧ (ps.map (·.1)).Nodup ∧ (∀ q ∈ ps, M[q.1]? = some 2 ∧ q.1 < 64 ∧ 4 ≤ q.1 ∧ q.2 < 4294967296),
    ⟨A, 0, F, d, m, Fd, _, _, [], rfl, Nat.zero_le _, rfl, P3.old o5, by simp, Grow.lit e5 rfl (Nat.zero_le _), ?_, rfl, new_free, new_later, by simp, by simp⟩, ?_⟩
  · intro a ha
    simp only [Option.some.injEq] at ha
    subst ha
    exact fun q => absurd (P3.mem_lt _ q) (Nat.lt_irrefl _)
  rintro k g pf n c i ⟨j, F, d, m, Fd, nw, M, ps, rfl, hj, rfl, P8, hnw, hgr, hpf, hps, hc1, hc3, hnd, hst⟩
  refine ⟨fun q5 i14 e14 g15 e15 => ?_, fun q5 => ?_⟩
  · -- one is put
    have e14 := u8w e14 (by omega) (by omega)
    subst e14
    have o15 := old_of_alloc e15
    have P15 := P8.old o15
    have hsh : Shows g15 (some ⟨g.next, 0, none⟩) 1 1 (natC .u8 [j]) := (Grow.lit (lim := 0) (sz := 1) (n := 1) (elem := 5) (cs := natC .u8 [j]) e15 rfl (Nat.zero_le _)).shows
    refine (pilePut kP mA mi ms kw dW dc dh ds sO sM P15 (by omega) hsh (.inr ⟨_, _, rfl⟩) (fun a ha => ?_) (fun x hx => ?_)).mono ?_
    · simp only [Option.some.injEq] at ha
      subst ha
      exact fun q => absurd (P8.mem_lt _ q) (Nat.lt_irrefl _)
    · simp at hx; omega
    rintro v g17 (⟨q6, -⟩ | ⟨-, s, hs, hMs, rfl, Fd', P17, f17⟩ | ⟨-, q6, -⟩)
    · simp at q6
    rotate_left
    · exact absurd (List.count_pos_iff.1 (show 0 < M.count 1 by omega)) q6
    have hsw := P8.within s 1 hMs (by decide)
    refine ⟨_, _, _, _, rfl, fun g22 e22 => ⟨rfl, _, stN_all (get_of_alloc e22) rfl, _, _, _, ldN_all (get_set_self _ _ _) rfl, fun g27 e27 => ?_⟩⟩
    have o22 := old_of_alloc e22
    have n22 := next_of_alloc e22
    have hsec : Sec (blkOf [j]) := blk_sec (by simp) (by simp; omega)
    have kset := near_set g17.next g22 (.cells [.int .i64 s, .int .u64 1, .int .u32 (crcOf (blkOf [j]) : Nat)] 33 false)
    have P23 := (P17.old o22).nearN kset (fun z => absurd (P17.mem_lt _ z) (Nat.lt_irrefl _))
    -- the slice of pointers
    have hg15 := hgr.old o15
    have hg23 : Grow 0 (g22.set g17.next (.cells [.int .i64 s, .int .u64 1, .int .u32 (crcOf (blkOf [j]) : Nat)] 33 false)) 33 3 pf n c (ptrsC 1 ps) := by
      refine ⟨hgr.1, ?_⟩
      rcases hg15.2 with z | ⟨b, hp, hl, hb, hgb, hcc⟩
      · exact .inl z
      · have hb17 := f17.1
        refine .inr ⟨b, hp, hl, by rw [kset.1, n22]; omega, ?_, hcc⟩
        rw [kset.2 b (by omega), o22.2 b (by omega), f17.2.1 b hb (hpf _ hp)]
        exact hgb
    obtain ⟨p', c', g31, k31, hg31, hob, hap, hfr⟩ := hg23.push (ElemOk_of (P := Try.prog) (st := 28) (by' := 24) (by kernel_rfl)) (Nat.zero_le _) (m := 1) e27 rfl (by have := hgr.1; rw [ptrsC_len] at this; unfold roomMax; omega) (by have := hgr.1; rw [ptrsC_len] at this; omega)
    refine ⟨p', n + 1, c', g31, k31, fun i32 e32 => ?_⟩
    have e32 := i64w e32 (by omega) (by omega)
    obtain ⟨b', rfl, hb'⟩ := hfr (by decide)
    have hFlt := P23.mem_lt
    have hnotin : ∀ a, pf = some a → a.block ∉ (p :: m :: Fd') := fun a ha q => (f17.2.2 _ q).elim (hpf a ha) (fun z => by
      have hlt : a.block < g.next := by
        rcases hgr.2 with z2 | ⟨b, hp, hl, hb, hgb, hcc⟩
        · rw [z2.1] at ha; cases ha
        · rw [hp] at ha; simp only [Option.some.injEq] at ha; rw [← ha]; exact hb
      have := o15.1
      omega)
    have P31 : PileO g31 p (p :: m :: Fd') d m Fd' (j + 1) (nw.set s (blkOf [j])) (M.set s 2) 1 0 := P23.keep hob.1 fun c hc => hap c (hFlt c hc) (by
      cases hpa : pf with
      | none => trivial
      | some a => exact fun z => hnotin a hpa (z ▸ hc))
    have hsn : s ∉ ps.map (·.1) := fun z => by
      rw [List.mem_map] at z
      obtain ⟨q, hq, rfl⟩ := z
      have := (hst q hq).1
      rw [hMs] at this
      cases this
    refine ⟨A - (j + 1), by omega, j + 1, _, d, m, Fd', _, _, ps ++ [(s, crcOf (blkOf [j]))], by omega, by omega, rfl, P31, by rw [List.length_set]; exact hnw, by rw [ptrsC_app]; exact hg31, ?_, by simp [hps], ?_, ?_, ?_, ?_⟩
    · intro a ha
      simp only [Option.some.injEq] at ha
      subst ha
      exact fun z => absurd (hFlt _ z) (by show ¬ b' < _; omega)
    · rw [count_setN hMs, hc1]; exact cntA _
    · rw [count_setN hMs, hc3]; rfl
    · rw [List.map_append, List.nodup_append]
      refine ⟨hnd, by simp, fun x hx y hy z => ?_⟩
      simp only [List.map_cons, List.map_nil, List.mem_singleton] at hy
      subst z hy
      exact hsn hx
    · intro q hq
      rw [List.mem_append] at hq
      rcases hq with hq | hq
      · have := hst q hq
        refine ⟨?_, this.2⟩
        have hne : s ≠ q.1 := fun z => hsn (by rw [z]; exact List.mem_map_of_mem hq)
        rw [List.getElem?_set, if_neg hne]
        exact this.1
      · simp at hq
        subst hq
        refine ⟨by rw [List.getElem?_set, if_pos rfl, if_pos (List.getElem?_eq_some_iff.1 hMs).1], by omega, hsw.1, crcOf_lt hsec.2⟩
  · -- the commit and what follows
    have hjA : j = A := by omega
    subst hjA
    have hn : n = j := by have := hgr.1; rw [ptrsC_len] at this; omega
    subst hn
    refine (pileCommit kC mC mi ms P8 (by omega)).mono ?_
    rintro v0 g34 ⟨P34, f34⟩
    have hM1 : ∀ (t a : Nat), (ps.map (·.1))[t]? = some a → (M.map freed)[a]? = some 2 ∧ a < 64 ∧ 4 ≤ a := by
      intro t a ht
      rw [List.getElem?_map] at ht
      cases hq : ps[t]? with
      | none => rw [hq] at ht; cases ht
      | some q =>
        rw [hq] at ht
        simp only [Option.map_some, Option.some.injEq] at ht
        have := hst q (List.mem_of_getElem? hq)
        rw [ht] at this
        exact ⟨by rw [List.getElem?_map, this.1]; rfl, this.2.1, this.2.2.1⟩
    have hcr : ∀ t (ht : t < ps.length), ps[t].2 < 4294967296 := fun t ht => (hst _ (List.getElem_mem ht)).2.2.2
    have hg1 : ∀ t (ht : t < ps.length), (ps.map (·.1))[t]? = some ps[t].1 := fun t ht => by rw [List.getElem?_map, List.getElem?_eq_getElem ht]; rfl
    have hcM : (M.map freed).count 1 = 60 - n := by rw [count_freed, hc1, hc3]; rfl
    have hcM3 : (M.map freed).count 3 = 0 := count_freed3 M
    have sh34 := hgr.shows.fr f34 hpf
    have hpl34 : ∀ a, pf = some a → a.block < g34.next := fun a ha => by
      have := f34.1
      rcases hgr.2 with z2 | ⟨b, hp, hl, hb, hgb, hcc⟩
      · rw [z2.1] at ha; cases ha
      · rw [hp] at ha; simp only [Option.some.injEq] at ha; rw [← ha]; show b < _; omega
    generalize M.map freed = M1 at P34 hM1 hcM hcM3
    clear hst hc1 hc3 P8 f34 hgr
    refine ⟨fun i k g => ∃ (t : Nat) (M2 : List Nat), i = t ∧ t ≤ n ∧ n - t = k ∧ PileO g p F d m Fd n nw M2 2 1 ∧ Shows g pf n 3 (ptrsC 1 ps) ∧ M2.count 1 = 60 - n ∧ M2.count 3 = t ∧ (∀ a, pf = some a → a.block < g.next) ∧
        (∀ (u a : Nat), (ps.map (·.1))[u]? = some a → M2[a]? = some (if u < t then 3 else 2)),
      ⟨n, 0, M1, rfl, Nat.zero_le _, rfl, P34, sh34, hcM, hcM3, hpl34, fun u a hu => (hM1 u a hu).1⟩, ?_⟩
    clear P34 sh34 hcM hcM3 hpl34
    rintro k36 g37 i39 ⟨t, M2, rfl, ht, rfl, P37, sh37, hd1, hd3, hpl37, hdu⟩
    refine ⟨fun q5 => ?_, fun q5 => ?_⟩
    · -- one is dropped
      have htn : t < n := by omega
      have htp : t < ps.length := by omega
      obtain ⟨b, off, hpb, hld, -⟩ := sh37.getN htn
      rw [ptrsC_get 1 ps t htp] at hld
      subst hpb
      refine derefP_at ⟨by omega, q5, _, _, _, hld, fun g45 e45 => ⟨rfl, _, stN_all (get_of_alloc e45) rfl, _, _, _, ldN_all (get_set_self _ _ _) rfl, ?_⟩⟩
      have o45 := old_of_alloc e45
      have n45 := next_of_alloc e45
      have k46 := near_set g37.next g45 (.cells [.int .i64 ps[t].1, .int .u64 1, .int .u32 (ps[t].2 : Nat)] 33 false)
      have nF : g37.next ∉ F := fun z => absurd (P37.mem_lt _ z) (Nat.lt_irrefl _)
      have P46 := (P37.old o45).nearN k46 nF
      have f46 := (o45.fr F).near_new k46 (Nat.le_refl _)
      have ht1 := hM1 t _ (hg1 t htp)
      have ht2 : M2[ps[t].1]? = some 2 := by rw [hdu t _ (hg1 t htp), if_neg (Nat.lt_irrefl t)]
      have hw := ptr_wf (b := 1) (show ps[t].1 < 1024 by omega) (by decide) (hcr t htp)
      have hnz : ¬ (((ps[t].1 : Nat) : Int) = 0 ∧ (1 : Int) = 0 ∧ ((ps[t].2 : Nat) : Int) = 0) := fun z => absurd z.2.1 (by decide)
      refine (pileDrop kD mF mL mc mi ms P46 hw hnz).mono ?_
      rintro v g51 (⟨-, -, -, rfl, P51, f51⟩ | ⟨q, -⟩)
      rotate_left
      · exact absurd ⟨by omega, by omega, by rw [Int.toNat_natCast]; exact ht2⟩ q
      rw [Int.toNat_natCast, if_neg (by decide)] at P51
      have c51 : g51.get g37.next = some (.cells [.int .i64 ps[t].1, .int .u64 1, .int .u32 (ps[t].2 : Nat)] 33 false) := (f51.2.1 _ (by rw [k46.1, n45]; omega) nF).trans (get_set_self _ _ _)
      refine ⟨0, rfl, fun _ => ⟨_, _, _, ldN_all c51 rfl, (pileDrop kD mF mL mc mi ms P51 hw hnz).mono ?_⟩, fun q => absurd rfl q⟩
      have hs3 : (M2.set ps[t].1 3)[ps[t].1]? = some 3 := by rw [List.getElem?_set, if_pos rfl, if_pos (List.getElem?_eq_some_iff.1 ht2).1]
      rintro v g57 (⟨-, -, q, -⟩ | ⟨-, rfl, P57, f57⟩)
      · rw [Int.toNat_natCast, hs3] at q
        cases q
      refine ⟨72, rfl, fun _ i59 e59 => ?_, fun q => absurd rfl q⟩
      have e59 := i64w e59 (by omega) (by omega)
      have hct1 : (M2.set ps[t].1 3).count 1 = 60 - n := by rw [count_setN ht2, hd1]; rfl
      have hct3 : (M2.set ps[t].1 3).count 3 = t + 1 := by rw [count_setN ht2, hd3]; rfl
      refine ⟨n - (t + 1), by omega, t + 1, _, by rw [e59]; rfl, htn, rfl, P57, ((sh37.fr f46 hpf).fr f51 hpf).fr f57 hpf, hct1, hct3, fun a ha => Nat.lt_of_lt_of_le (hpl37 a ha) (Nat.le_trans f46.1 (Nat.le_trans f51.1 f57.1)), fun u a hu => ?_⟩
      by_cases ea : ps[t].1 = a
      · rw [← ea] at hu ⊢
        have hut := nodup_get hnd hu (hg1 t htp)
        rw [hs3, if_pos (by omega)]
      · rw [List.getElem?_set, if_neg ea]
        have hut : u ≠ t := by
          rintro rfl
          rw [hg1 u htp] at hu
          exact ea (Option.some.inj hu)
        rw [hdu u a hu]
        congr 1
        by_cases hlt : u < t
        · rw [if_pos hlt, if_pos (by omega)]
        · rw [if_neg hlt, if_neg (by omega)]
    -- the second loop
    have htn : t = n := by omega
    subst htn
    have hd3' : ∀ (u a : Nat), (ps.map (·.1))[u]? = some a → M2[a]? = some 3 := fun u a hu => by
      rw [hdu u a hu, if_pos]
      have := (List.getElem?_eq_some_iff.1 hu).1
      rw [List.length_map] at this
      omega
    clear hdu hM1 q5
    refine ⟨fun i k g => ∃ (j : Nat) (F : List Nat) (W : Nat) (Fd : List Nat) (nw : List (List Nat)), i = j ∧ j ≤ B ∧ B - j = k ∧ W ≤ t + j ∧ PileO g p F d m Fd W nw M2 2 1 ∧ nw.length = 64 ∧ Shows g pf t 3 (ptrsC 1 ps) ∧ (∀ a, pf = some a → a.block ∉ F) ∧ (∀ a, pf = some a → a.block < g.next),
      ⟨B, 0, F, t, Fd, nw, rfl, Nat.zero_le _, rfl, Nat.le_refl _, P37, hnw, sh37, hpf, hpl37⟩, ?_⟩
    clear P37 sh37 hnw hpf hpl37
    rintro k61 g62 i64 ⟨j, F, W, Fd, nw, rfl, hj, rfl, hW, P62, hnw, sh62, hpf, hpl62⟩
    refine ⟨fun q5 i65 e65 g66 e66 => ?_, fun q5 => ?_⟩
    · have e65 := u8w e65 (by omega) (by omega)
      subst e65
      have o66 := old_of_alloc e66
      have P66 := P62.old o66
      have sh66 := sh62.old o66
      have hsh : Shows g66 (some ⟨g62.next, 0, none⟩) 2 1 (natC .u8 [j, 1]) := (Grow.lit (lim := 0) (sz := 1) (n := 2) (elem := 5) (cs := natC .u8 [j, 1]) e66 rfl (Nat.zero_le _)).shows
      refine (pilePut kP mA mi ms kw dW dc dh ds sO sM P66 (by omega) hsh (.inr ⟨_, _, rfl⟩) (fun a ha => ?_) (fun x hx => ?_)).mono ?_
      · simp only [Option.some.injEq] at ha
        subst ha
        exact fun q => absurd (P62.mem_lt _ q) (Nat.lt_irrefl _)
      · simp at hx; omega
      rintro v g68 (⟨q6, -⟩ | ⟨-, s, hs, hMs, rfl, Fd', P68, f68⟩ | ⟨-, q6, -⟩)
      · simp at q6
      rotate_left
      · exact absurd (List.count_pos_iff.1 (show 0 < M2.count 1 by omega)) q6
      have hsec : Sec (blkOf [j, 1]) := blk_sec (by simp) (by simp; omega)
      have hcs := crcOf_lt hsec.2
      generalize crcOf (blkOf [j, 1]) = cs at hcs P68 ⊢
      have hnw' : (nw.set s (blkOf [j, 1])).length = 64 := by rw [List.length_set]; exact hnw
      generalize nw.set s (blkOf [j, 1]) = nw' at P68 hnw'
      have sh68 := sh66.fr f68 hpf
      have hpf' : ∀ a, pf = some a → a.block ∉ (p :: m :: Fd') := by
        intro a ha q
        exact (f68.2.2 _ q).elim (hpf _ ha) (fun z => absurd (Nat.lt_of_lt_of_le (hpl62 a ha) o66.1) (Nat.not_lt.2 z))
      refine ⟨_, _, _, _, rfl, fun g73 e73 => ⟨rfl, _, stN_all (get_of_alloc e73) rfl, fun _ => ⟨fun _ => ?_, fun q => absurd (show ((t : Nat) : Int) < 60 by omega) q⟩, fun q => absurd rfl q⟩⟩
      have o73 := old_of_alloc e73
      have n73 := next_of_alloc e73
      have k74 := near_set g68.next g73 (.cells [.int .i64 s, .int .u64 2, .int .u32 cs] 33 false)
      have nF : g68.next ∉ (p :: m :: Fd') := fun z => absurd (P68.mem_lt _ z) (Nat.lt_irrefl _)
      have P74 := (P68.old o73).nearN k74 nF
      have sh74 := sh68.fr ((o73.fr (p :: m :: Fd')).near_new k74 (Nat.le_refl _)) hpf'
      have c74 : (g73.set g68.next (.cells [.int .i64 s, .int .u64 2, .int .u32 cs] 33 false)).get g68.next = _ := get_set_self _ _ _
      have l74 : g68.next < (g73.set g68.next (.cells [.int .i64 s, .int .u64 2, .int .u32 cs] 33 false)).next := by rw [k74.1, n73]; omega
      have hpl74 : ∀ a, pf = some a → a.block < (g73.set g68.next (.cells [.int .i64 s, .int .u64 2, .int .u32 cs] 33 false)).next := fun a ha => Nat.lt_of_lt_of_le (hpl62 a ha) (Nat.le_trans o66.1 (Nat.le_trans f68.1 (Nat.le_trans o73.1 (by rw [k74.1]; exact Nat.le_refl _))))
      generalize g73.set g68.next (.cells [.int .i64 s, .int .u64 2, .int .u32 cs] 33 false) = g74 at P74 sh74 c74 l74 hpl74
      have hs3 : ∀ u a, (ps.map (·.1))[u]? = some a → a ≠ s := fun u a hu z => by
        have := hd3' u a hu
        rw [z, hMs] at this
        cases this
      refine ⟨fun i k g => ∃ u : Nat, i = u ∧ u ≤ t ∧ t - u = k ∧ PileO g p (p :: m :: Fd') d m Fd' (W + 1) nw' (M2.set s 2) 2 1 ∧ Shows g pf t 3 (ptrsC 1 ps) ∧ g74.next ≤ g.next ∧ g68.next < g.next ∧ g.get g68.next = some (.cells [.int .i64 s, .int .u64 2, .int .u32 cs] 33 false),
        ⟨t, 0, rfl, Nat.zero_le _, rfl, P74, sh74, Nat.le_refl _, l74, c74⟩, ?_⟩
      rintro k76 g77 i79 ⟨u, rfl, hu, rfl, P77, sh77, hn77, l77, c77⟩
      refine ⟨fun q7 => ?_, fun q7 => ⟨fun _ => ⟨_, _, _, ldN_all c77 rfl, ?_⟩, fun q => absurd rfl q⟩⟩
      · have hut : u < t := by omega
        have hup : u < ps.length := by omega
        obtain ⟨b, off, hpb, hld, -⟩ := sh77.getN hut
        rw [ptrsC_get 1 ps u hup] at hld
        subst hpb
        refine derefP_at ⟨by omega, q7, _, _, _, hld, fun g85 e85 => ⟨rfl, _, stN_all (get_of_alloc e85) rfl, fun _ => ⟨_, ld1_at (get_set_self _ _ _) rfl, s, ?_, ?_, ?_⟩, fun q => absurd rfl q⟩⟩
        · have := near_set g77.next g85 (.cells [.int .i64 ps[u].1, .int .u64 1, .int .u32 (ps[u].2 : Nat)] 33 false)
          refine ld1_at ((this.2 _ (by omega)).trans (((old_of_alloc e85).2 _ l77).trans c77)) rfl
        · exact fun z => absurd (show ps[u].1 = s by omega) (hs3 u _ (hg1 u hup))
        · intro _ i89 e89
          have e89 := i64w e89 (by omega) (by omega)
          have o85 := old_of_alloc e85
          have n85 := next_of_alloc e85
          have k86 := near_set g77.next g85 (.cells [.int .i64 ps[u].1, .int .u64 1, .int .u32 (ps[u].2 : Nat)] 33 false)
          have nF77 : g77.next ∉ (p :: m :: Fd') := fun z => absurd (P77.mem_lt _ z) (Nat.lt_irrefl _)
          refine ⟨t - (u + 1), by omega, u + 1, by rw [e89]; rfl, hut, rfl, (P77.old o85).nearN k86 nF77, sh77.fr ((o85.fr (p :: m :: Fd')).near_new k86 (Nat.le_refl _)) hpf', by rw [k86.1, n85]; omega, by rw [k86.1, n85]; omega, (k86.2 _ (by omega)).trans ((o85.2 _ l77).trans c77)⟩
      · have hss : (M2.set s 2)[s]? = some 2 := by rw [List.getElem?_set, if_pos rfl, if_pos (List.getElem?_eq_some_iff.1 hMs).1]
        refine (pileDrop kD mF mL mc mi ms P77 (ptr_wf (b := 2) (show s < 1024 by omega) (by decide) hcs) (fun z => absurd z.2.1 (by decide))).mono ?_
        rintro v g95 (⟨-, -, -, rfl, P95, f95⟩ | ⟨q, -⟩)
        rotate_left
        · exact absurd ⟨by omega, by omega, by rw [Int.toNat_natCast]; exact hss⟩ q
        rw [Int.toNat_natCast, if_pos (by decide), List.set_set, set_same hMs] at P95
        refine ⟨0, rfl, fun _ => (pileMap kM P95).mono ?_, fun q => absurd rfl q⟩
        rintro _ _ ⟨rfl, rfl⟩
        refine ⟨_, rfl, (mapCount mN P95.map).mono ?_⟩
        rintro _ _ ⟨rfl, rfl⟩
        refine ⟨_, rfl, fun i103 e103 => ?_⟩
        have e103 := i64w e103 (by omega) (by omega)
        refine ⟨fun _ i104 e104 => ?_, fun q => absurd (by rw [e103, hd1]; omega) q⟩
        have e104 := i64w e104 (by omega) (by omega)
        exact ⟨B - (j + 1), by omega, j + 1, _, W + 1, _, _, by rw [e104]; rfl, by omega, rfl, by omega, P95, hnw', sh77.fr f95 hpf', hpf', fun a ha => Nat.lt_of_lt_of_le (hpl74 a ha) (Nat.le_trans hn77 f95.1)⟩
    · -- the end
      refine (pileCommit kC mC mi ms P62 (by omega)).mono ?_
      rintro v0 g138 ⟨P138, -⟩
      refine (pileMap kM P138).mono ?_
      rintro _ _ ⟨rfl, rfl⟩
      refine ⟨_, rfl, (mapCount mN P138.map).mono ?_⟩
      rintro _ _ ⟨rfl, rfl⟩
      refine ⟨_, rfl, fun _ => (pileBase kB P138).mono ?_, fun q => absurd (by rw [count_freed, hd1, hd3]; omega) q⟩
      rintro _ _ ⟨rfl, rfl⟩
      refine ⟨_, rfl, fun x ex => (pileStamp kS P138).mono ?_⟩
      have ex := u64w ex (by decide) (by decide)
      rintro _ _ ⟨rfl, rfl⟩
      exact ⟨_, rfl, fun _ => rfl, fun q => absurd (by rw [ex]) q⟩
end
end Go.Am
