/-
  WHAT WAS PUT, OR CORRUPT: the law of the pile, as the abstract machine runs it.
-/
import Derived.Test.YteblpmcekhcgiaaCText
import Derived.Test.YteblpmcekhcgiaaVPileL
import Derived.Test.YteblpmcekhcgiaaCLives
set_option linter.unusedVariables false
set_option linter.unusedSimpArgs false
set_option maxRecDepth 100000
namespace Go.Am
open Go.Proofs
theorem self_sec : ∀ {s : List Nat} {X : Prop}, X → vSelfL (secC s) X
  | [], _, x => x
  | _ :: s, _, x => self_sec (s := s) x
def ptr3 (qs : List (Nat × Nat × Nat)) : List Value := (qs.map fun q => [Value.int .i64 q.1, Value.int .u64 q.2.1, Value.int .u32 q.2.2]).flatten
theorem ptr3_len (qs : List (Nat × Nat × Nat)) : (ptr3 qs).length = qs.length * 3 := by
  induction qs with
  | nil => rfl
  | cons q ps ih => simp only [ptr3, List.map_cons, List.flatten_cons, List.length_append, List.length_cons, List.length_nil] at *; omega
theorem ptr3_app (ps qs : List (Nat × Nat × Nat)) : ptr3 (ps ++ qs) = ptr3 ps ++ ptr3 qs := by simp [ptr3]
theorem ptr3_get : ∀ (ps : List (Nat × Nat × Nat)) (i : Nat) (hi : i < ps.length), ((ptr3 ps).drop (i * 3)).take 3 = [.int .i64 (ps[i].1 : Nat), .int .u64 (ps[i].2.1 : Nat), .int .u32 (ps[i].2.2 : Nat)]
  | [], i, hi => absurd hi (Nat.not_lt_zero _)
  | q :: ps, 0, hi => rfl
  | q :: ps, i + 1, hi => by
    have e : ptr3 (q :: ps) = [.int .i64 (q.1 : Nat), .int .u64 (q.2.1 : Nat), .int .u32 (q.2.2 : Nat)] ++ ptr3 ps := rfl
    rw [e, show (i + 1) * 3 = 3 + i * 3 by omega, List.drop_append]
    simp only [List.length_cons, List.length_nil]
    rw [List.drop_eq_nil_of_le (by simp), List.nil_append, show 3 + i * 3 - (0 + 1 + 1 + 1) = i * 3 by omega]
    exact ptr3_get ps i (by simpa using hi)
/-- A text was put, or it was too long. -/
def Put1 (data : List Nat) (nw : List (List Nat)) (M : List Nat) (q : Nat × Nat × Nat) : Prop :=
  (128 < data.length ∧ q = (0, 0, 0)) ∨ (data.length ≤ 128 ∧ q.2 = (1, crcOf (blkOf data)) ∧ nw[q.1]? = some (blkOf data) ∧ M[q.1]? = some 2 ∧ 4 ≤ q.1 ∧ q.1 < 64)
theorem Put1.set {data : List Nat} {nw : List (List Nat)} {M : List Nat} {q : Nat × Nat × Nat} (k : Put1 data nw M q) {s : Nat} (hs : M[s]? = some 1) (b : List Nat) : Put1 data (nw.set s b) (M.set s 2) q := by
  rcases k with k | ⟨k1, k2, k3, k4, k5⟩
  · exact .inl k
  · have hne : s ≠ q.1 := fun z => by rw [z, k4] at hs; cases hs
    exact .inr ⟨k1, k2, by rw [List.getElem?_set, if_neg hne]; exact k3, by rw [List.getElem?_set, if_neg hne]; exact k4, k5⟩
def PutAll (ds : List (List Nat)) (nw : List (List Nat)) (M : List Nat) (qs : List (Nat × Nat × Nat)) : Prop := ∀ (i : Nat) (q : Nat × Nat × Nat) (data : List Nat), qs[i]? = some q → ds[i]? = some data → Put1 data nw M q
theorem PutAll.push {ds : List (List Nat)} {nw : List (List Nat)} {M : List Nat} {qs : List (Nat × Nat × Nat)} (k : PutAll ds nw M qs) {q : Nat × Nat × Nat} {data : List Nat} (hd : ds[qs.length]? = some data) (hq : Put1 data nw M q) : PutAll ds nw M (qs ++ [q]) := by
  intro i q' data' h1 h2
  rw [List.getElem?_append] at h1
  split at h1
  · exact k i q' data' h1 h2
  · rename_i hge
    have hi : i = qs.length := by
      have := (List.getElem?_eq_some_iff.1 h1).1
      simp at this
      omega
    subst hi
    rw [hd] at h2
    cases h2
    simp at h1
    rw [← h1]
    exact hq
section
variable {K : Xs}
/-- What holds while texts are put. -/
def RInv (g0 : AH) (ds : List (List Nat)) (p d m na : Nat) (pf : Option Addr) (n c : Nat) (i : Int) (k : Nat) (g : AH) : Prop :=
  ∃ (j : Nat) (F : List Nat) (W : Nat) (Fd : List Nat) (nw : List (List Nat)) (M : List Nat) (qs : List (Nat × Nat × Nat)), i = j ∧ j ≤ na ∧ na - j = k ∧ PileO g p F d m Fd W nw M 1 0 ∧ W ≤ j ∧ nw.length = 64 ∧ Old g0 g ∧ (∀ c ∈ F, g0.next ≤ c) ∧
    Grow g0.next g 33 3 pf n c (ptr3 qs) ∧ (∀ a, pf = some a → a.block ∉ F) ∧ (∀ a, pf = some a → a.block < g.next) ∧ qs.length = j ∧ 60 - j ≤ M.count 1 ∧ PutAll ds nw M qs
theorem readsTrue (hk : K 3 = none) (ha : K 7 = some (.sum xTrue)) (k1 : K 8 = none) (k2 : K 27 = none) (k3 : K 28 = none) (k4 : K 26 = none)
    (kP : K 9 = none) (kw : K 30 = none) (kG : K 12 = none) (kV : K 10 = none) (kB : K 13 = none)
    (mA : K 29 = none) (mi : K 52 = none) (ms : K 51 = none)
    (dW : K 53 = none) (dR : K 33 = none) (dT : K 11 = none) (dc : K 55 = none) (dh : K 32 = none) (ds' : K 65 = none) (sO : K 34 = none) (sM : K 56 = some (.sum xMore))
    {h : AH} {pa : Option Addr} {na ca : Nat} {ds : List (List Nat)} (T : Texts h pa na ds) (ati : Int) {rot : List Nat} (hrot : Sec rot) :
    Wf Try.prog K 3 [.slice pa na ca, .int .i64 ati, .agg (secC rot).toArray] h fun v _ => v = .bool true := by
  have hrl := secC_len hrot
  refine vc_aquiferlaw09_PileReads hk _ _ _ _ _ h _ fun g0 e0 => Wf_sum ha (v := .bool true) (h' := g0) rfl (Nat.le_refl _) (.inl ⟨rfl, fun _ => rfl, fun q1 => ?_⟩)
  have o0 := old_of_alloc e0
  have n0 := next_of_alloc e0
  have T0 := T.old o0
  have hc0 := get_of_alloc e0
  refine (made k1 k2 k3 k4 ms 64 (by decide) g0).mono ?_
  rintro _ g4 ⟨p, F, d, m, Fd, rfl, P4, o4, hF4⟩
  refine ⟨_, rfl, fun g6 e6 => ?_⟩
  have o6 := old_of_alloc e6
  have n6 := next_of_alloc e6
  refine ⟨RInv g0 ds p d m na, ⟨na, 0, F, 0, Fd, _, _, [], rfl, Nat.zero_le _, rfl, P4.old o6, Nat.le_refl _, by simp, o4.trans o6, hF4, Grow.lit e6 rfl o4.1, ?_, ?_, rfl, by rw [new_free]; omega, fun i q data hq => by simp at hq⟩, ?_⟩
  · intro a ha'
    simp only [Option.some.injEq] at ha'
    subst ha'
    exact fun q => absurd (P4.mem_lt _ q) (Nat.lt_irrefl _)
  · intro a ha'
    simp only [Option.some.injEq] at ha'
    subst ha'
    rw [n6]; exact Nat.lt_succ_self _
  rintro k g9 pf n c i ⟨j, F, W, Fd, nw, M, qs, rfl, hj, rfl, P9, hW, hnw, o9, hF, hgr, hpf, hpl, hqs, hcnt, hall⟩
  refine ⟨fun q5 => ?_, fun q5 => ?_⟩
  · -- one is put
    have hjn : j < na := by omega
    obtain ⟨b, off, rfl, hjd, p17, n18, c19, hld, tx⟩ := (T0.old o9).at hjn
    have hdat : ds[qs.length]? = some ds[j] := by rw [hqs, List.getElem?_eq_getElem hjd]
    generalize ds[j] = data at tx hdat
    refine derefP_at ⟨by omega, q5, p17, n18, c19, by rw [Int.toNat_natCast, Nat.mul_one]; exact hld, fun g20 e20 => ?_⟩
    have o20 := old_of_alloc e20
    obtain ⟨tx1, tx2, tx3, tx4, tx5⟩ := tx.old o20
    have hgl : Grow g9.next g20 5 1 (some ⟨g9.next, 0, none⟩) 0 0 [] := Grow.lit e20 rfl (Nat.le_refl _)
    obtain ⟨p21, c23, g24, k24, hg24, hob, -, -⟩ := hgl.append eBytes o20.1 (x := .slice p17 n18 c19) (m := n18) rfl (tx4.firstC tx1) tx4.1 (by simp only [reachBytes, roomMax] at *; omega) (by simp only [reachBytes] at *; omega) ⟨_, eBytes.1⟩
    refine ⟨p21, _, c23, g24, k24, ?_⟩
    have o24 : Old g9 g24 := (o20.toB (Nat.le_refl _)).trans hob
    have P24 := P9.old o24
    have hsh : Shows g24 p21 (0 + n18) 1 (natC .u8 data) := hg24.shows
    have hp21 : p21 = none ∨ ∃ b off, p21 = some ⟨b, off, none⟩ := by
      rcases hg24.2 with z | ⟨b, hp, -⟩
      · exact .inl z.1
      · exact .inr ⟨b, 0, hp⟩
    have hda : ∀ a, p21 = some a → a.block ∉ F := by
      intro a ha' q
      rcases hg24.2 with z | ⟨b, hp, hl, -⟩
      · rw [z.1] at ha'; cases ha'
      · rw [hp] at ha'
        simp only [Option.some.injEq] at ha'
        subst ha'
        exact absurd (P9.mem_lt _ q) (Nat.not_lt.2 hl)
    have fin : ∀ (g26 : AH) (F' : List Nat) (W' : Nat) (Fd' : List Nat) (nw' : List (List Nat)) (M' : List Nat) (x y z : Nat), PileO g26 p F' d m Fd' W' nw' M' 1 0 → Fr F g24 g26 F' → W' ≤ j + 1 → nw'.length = 64 → 60 - (j + 1) ≤ M'.count 1 → PutAll ds nw' M' (qs ++ [(x, y, z)]) →
        ∀ g31 : AH, g31 = g26.alloc (.cells [.int .i64 0, .int .u64 0, .int .u32 0] 33 false) → ∀ g36 : AH, g36 = (g31.set g26.next (.cells [.int .i64 x, .int .u64 y, .int .u32 z] 33 false)).alloc (.cells [.int .i64 x, .int .u64 y, .int .u32 z] 33 false) →
        ∃ (p37 : Option Addr) (n38 c39 : Nat) (h40 : AH), aBuiltin Try.prog g36 .append #[28, 28] [.slice pf n c, .slice (some ⟨(g31.set g26.next (.cells [.int .i64 x, .int .u64 y, .int .u32 z] 33 false)).next, 0, none⟩) 1 1] = some (.slice p37 n38 c39, h40) ∧
          (∀ i41 : Int, i41 = IntKind.wrap .i64 ((j : Int) + 1) → ∃ j10, j10 < na - j ∧ RInv g0 ds p d m na p37 n38 c39 i41 j10 h40) := by
      intro g26 F' W' Fd' nw' M' x y z P26 f26 hW' hnw' hcnt' hall' g31 e31 g36 e36
      have o31 := old_of_alloc e31
      have n31 := next_of_alloc e31
      have k32 := near_set g26.next g31 (.cells [.int .i64 x, .int .u64 y, .int .u32 z] 33 false)
      have hnF : g26.next ∉ F' := fun q => absurd (P26.mem_lt _ q) (Nat.lt_irrefl _)
      have P32 := (P26.old o31).nearN k32 hnF
      obtain ⟨oo24, hF24⟩ : Old g0 g24 ∧ ∀ c ∈ F, g0.next ≤ c := ⟨o9.trans o24, hF⟩
      obtain ⟨oo26, hF26⟩ := f26.old oo24 hF24
      have hpf26 : ∀ a, pf = some a → a.block ∉ F' := fun a ha' q => (f26.2.2 _ q).elim (hpf a ha') (fun z => absurd (Nat.lt_of_lt_of_le (hpl a ha') o24.1) (Nat.not_lt.2 z))
      have oo32 : Old g0 (g31.set g26.next (.cells [.int .i64 x, .int .u64 y, .int .u32 z] 33 false)) := (oo26.trans o31).near k32 oo26.1
      have hg32 : Grow g0.next (g31.set g26.next (.cells [.int .i64 x, .int .u64 y, .int .u32 z] 33 false)) 33 3 pf n c (ptr3 qs) := by
        refine ⟨hgr.1, ?_⟩
        rcases hgr.2 with z | ⟨b, hp, hl, hb, hgb, hcc⟩
        · exact .inl z
        · have h1 := o24.1
          have h2 := f26.1
          refine .inr ⟨b, hp, hl, by rw [k32.1, n31]; omega, ?_, hcc⟩
          rw [k32.2 b (by omega), o31.2 b (by omega), f26.2.1 b (by omega) (hpf _ hp), o24.2 b hb]
          exact hgb
      have hn : n = j := by have := hgr.1; rw [ptr3_len] at this; omega
      generalize g31.set g26.next (.cells [.int .i64 x, .int .u64 y, .int .u32 z] 33 false) = g32 at *
      obtain ⟨p', c', g40, k40, hg40, hob40, hap, hfr⟩ := hg32.push (ElemOk_of (P := Try.prog) (st := 28) (by' := 24) (by kernel_rfl)) oo32.1 (m := 1) e36 rfl (by unfold roomMax; omega) (by omega)
      refine ⟨p', n + 1, c', g40, k40, fun i41 e41 => ?_⟩
      have e41 := i64w e41 (by omega) (by omega)
      obtain ⟨b', rfl, hb'⟩ := hfr (by decide)
      have hFlt := P32.mem_lt
      have hbl : b' < g40.next := by
        rcases hg40.2 with z | ⟨b, hp, hl, hb, -⟩
        · cases z.1
        · simp only [Option.some.injEq, Addr.mk.injEq] at hp
          rw [hp.1]; exact hb
      refine ⟨na - (j + 1), by omega, j + 1, F', W', Fd', nw', M', qs ++ [(x, y, z)], by rw [e41]; rfl, hjn, rfl, P32.keep hob40.1 fun c hc => hap c (hFlt c hc) ?_, hW', hnw', ⟨Nat.le_trans oo32.1 hob40.1, fun c hc => by rw [hob40.2 c hc, oo32.2 c hc]⟩, hF26, by rw [ptr3_app]; exact hg40, ?_, ?_, by simp [hqs], hcnt', hall'⟩
      · cases hpa : pf with
        | none => trivial
        | some a => exact fun z => hpf26 a hpa (by rw [z]; exact hc)
      · intro a ha'
        simp only [Option.some.injEq] at ha'
        subst ha'
        exact fun z => absurd (hFlt _ z) (Nat.not_lt.2 hb')
      · intro a ha'
        simp only [Option.some.injEq] at ha'
        subst ha'
        exact hbl
    refine (pilePut kP mA mi ms kw dW dc dh ds' sO sM P24 (by omega) hsh hp21 hda tx5).mono ?_
    rintro v g26 (⟨q6, rfl, P26, f26⟩ | ⟨q6, s, hs, hMs, rfl, Fd', P26, f26⟩ | ⟨-, q6, -⟩)
    · refine ⟨_, _, _, _, rfl, fun g31 e31 => ⟨rfl, _, stN_all (get_of_alloc e31) rfl, fun q => absurd q (by decide), fun _ => ⟨fun q => absurd q (by omega), fun _ => ⟨_, _, _, ldN_all (get_set_self _ _ _) rfl, fun g45 e45 => ?_⟩⟩⟩⟩
      exact fin g26 F W Fd nw M 0 0 0 P26 f26 (by omega) hnw (by omega) (hall.push hdat (.inl ⟨q6, rfl⟩)) g31 e31 g45 e45
    · have hw := P24.within s 1 hMs (by decide)
      refine ⟨_, _, _, _, rfl, fun g31 e31 => ⟨rfl, _, stN_all (get_of_alloc e31) rfl, fun _ => ⟨fun _ => ⟨_, _, _, ldN_all (get_set_self _ _ _) rfl, fun g36 e36 => ?_⟩, fun q => absurd (show ((n18 : Nat) : Int) ≤ 128 by omega) q⟩, fun q => absurd rfl q⟩⟩
      refine fin g26 _ (W + 1) Fd' _ _ s 1 (crcOf (blkOf data)) P26 f26 (by omega) (by rw [List.length_set]; exact hnw) (by rw [count_setN hMs]; simp; omega) (PutAll.push (fun i q data' z1 z2 => (hall i q data' z1 z2).set hMs _) hdat (.inr ⟨q6, rfl, ?_, ?_, hw.1, by show s < 64; omega⟩)) g31 e31 g36 e36
      · rw [List.getElem?_set, if_pos rfl, if_pos (by show s < _; omega)]
      · rw [List.getElem?_set, if_pos rfl, if_pos (List.getElem?_eq_some_iff.1 hMs).1]
    · exact absurd (List.count_pos_iff.1 (show 0 < M.count 1 by omega)) q6
  · -- what is had
    have hjn : j = na := by omega
    subst hjn
    have hn : n = j := by have := hgr.1; rw [ptr3_len] at this; omega
    subst hn
    have hF9 := hF
    refine (pileDev kV P9).mono ?_
    rintro _ _ ⟨rfl, rfl⟩
    have hr9 : g9.get h.next = some (.cells (secC rot) 24 false) := (o9.2 _ (by omega)).trans hc0
    refine ⟨_, rfl, _, ldN_all hr9 hrl, (devRot dT dh P9.dev (by omega) ati hrot).mono ?_⟩
    intro v g56 hv
    obtain ⟨e57, nw2, rfl, D56, f56, hnw2, hn1, hn2⟩ : ∃ (e57 : Int) (nw2 : List (List Nat)), v = .int .i64 e57 ∧ DevO g56 d Fd W nw2 ∧ Fr Fd g9 g56 Fd ∧ nw2.length = nw.length ∧
        (∀ s : Nat, (s : Int) ≠ ati → nw2[s]? = nw[s]?) ∧ (∀ (s : Nat) t, (s : Int) = ati → nw2[s]? = some t → t = rot) := by
      rcases hv with ⟨z1, z2, rfl, D, f⟩ | ⟨z1, rfl, D, f⟩
      · refine ⟨0, _, rfl, D, f, List.length_set, fun s hs => ?_, fun s t hs ht => ?_⟩
        · rw [List.getElem?_set, if_neg (by omega)]
        · rw [List.getElem?_set, if_pos (by omega)] at ht
          split at ht
          · cases ht; rfl
          · cases ht
      · refine ⟨41, nw, rfl, D, f, rfl, fun s hs => rfl, fun s t hs ht => ?_⟩
        exact absurd ⟨by omega, by have := (List.getElem?_eq_some_iff.1 ht).1; omega⟩ z1
    obtain ⟨P56, F56⟩ := P9.onDev D56 f56 hnw2
    obtain ⟨o56, hF56⟩ := F56.old o9 hF9
    have sh56 := hgr.shows.fr F56 hpf
    have hpf2 : ∀ a, pf = some a → a.block ∉ (p :: m :: Fd) := fun a ha' q => (F56.2.2 _ q).elim (hpf a ha') (fun z => absurd (hpl a ha') (Nat.not_lt.2 z))
    refine ⟨_, rfl, self_sec ⟨ldN_all hr9 hrl, self_sec ⟨ldN_all hr9 hrl, ?_⟩⟩⟩
    have hnw64 : nw2.length = 64 := by rw [hnw2]; exact hnw
    refine ⟨fun i k g => ∃ u : Nat, i = u ∧ u ≤ n ∧ n - u = k ∧ PileO g p (p :: m :: Fd) d m Fd W nw2 M 1 0 ∧ Old g0 g ∧ Shows g pf n 3 (ptr3 qs), ⟨n, 0, rfl, Nat.zero_le _, rfl, P56, o56, sh56⟩, ?_⟩
    clear P56 o56 sh56 D56 f56 F56 P9 o9 hgr hr9
    rintro k59 g60 i62 ⟨u, rfl, hu, rfl, P60, o60, sh60⟩
    refine ⟨fun q7 => ?_, fun _ => rfl⟩
    have hun : u < n := by omega
    have huq : u < qs.length := by omega
    obtain ⟨b, off, rfl, hld, -⟩ := sh60.getN hun
    rw [ptr3_get qs u huq] at hld
    obtain ⟨bt, offt, rfl, hud, -⟩ := (T0.old o60).at hun
    have hput := hall u _ ds[u] (List.getElem?_eq_getElem huq) (List.getElem?_eq_getElem hud)
    have hwf : PtrWf (qs[u].1 : Nat) (qs[u].2.1 : Nat) (qs[u].2.2 : Nat) := by
      have hsec : Sec (blkOf (ds[u].take 128)) := blk_sec (by rw [List.length_take]; omega) (fun x hx => by
        obtain ⟨_, _, _, _, _, _, _, _, tx⟩ := (T0.old o60).at hun
        exact tx.2.2.2.2 x (List.mem_of_mem_take hx))
      rcases hput with ⟨-, hq⟩ | ⟨hl, hq, -, -, -, h64⟩
      · rw [hq]; exact ptr_wf (by decide) (by decide) (by decide)
      · rw [List.take_of_length_le hl] at hsec
        rw [hq]
        show PtrWf ((qs[u].1 : Nat) : Int) ((1 : Nat) : Int) ((crcOf (blkOf ds[u]) : Nat) : Int)
        exact ptr_wf (by omega) (by decide) (crcOf_lt hsec.2)
    generalize hqx : qs[u] = qx at hld hput hwf
    obtain ⟨x, y, z⟩ := qx
    simp only at hld hput hwf
    refine derefP_at ⟨by omega, q7, _, _, _, hld, fun g68 e68 => ⟨rfl, _, stN_all (get_of_alloc e68) rfl, _, _, _, ldN_all (get_set_self _ _ _) rfl, ?_⟩⟩
    have o68 := old_of_alloc e68
    have n68 := next_of_alloc e68
    have k69 := near_set g60.next g68 (.cells [.int .i64 x, .int .u64 y, .int .u32 z] 33 false)
    have hnF : g60.next ∉ (p :: m :: Fd) := fun q => absurd (P60.mem_lt _ q) (Nat.lt_irrefl _)
    have f69 := (o68.fr (p :: m :: Fd)).near_new k69 (Nat.le_refl _)
    have P69 := (P60.old o68).nearN k69 hnF
    refine (pileGet kG dR dc dh sO sM P69 hwf).mono ?_
    rintro v g74 ⟨P74, f74, hv⟩
    have hc74 : g74.get g60.next = some (.cells [.int .i64 x, .int .u64 y, .int .u32 z] 33 false) := (f74.2.1 _ (by rw [k69.1, n68]; omega) hnF).trans (get_set_self _ _ _)
    obtain ⟨t, e, rfl, hst, hcond⟩ : ∃ (t : List Nat) (e : Int), v = .tuple #[.agg (secC t).toArray, .int .i64 e] ∧ Sec t ∧ (ds[u].length ≤ 128 → (e = 0 ∧ t = blkOf ds[u]) ∨ (e = 0 ∧ (x : Int) = ati ∧ t = rot) ∨ (e = 91 ∧ (x : Int) = ati ∧ t = List.replicate 128 0)) := by
      rcases hv with ⟨z1, z2, z3, rfl⟩ | ⟨z1, t, z2, z3, z4, rfl⟩ | ⟨z1, z2, rfl⟩
      · refine ⟨_, _, rfl, sec_zero, fun hl => ?_⟩
        rcases hput with ⟨w1, -⟩ | ⟨-, -, -, -, w5, -⟩
        · omega
        · simp only at w5; omega
      · refine ⟨_, _, rfl, P74.dev.secs t (List.mem_of_getElem? z3), fun hl => ?_⟩
        rw [Int.toNat_natCast] at z3
        by_cases hxa : (x : Int) = ati
        · exact .inr (.inl ⟨rfl, hxa, hn2 x t hxa z3⟩)
        · rcases hput with ⟨w1, -⟩ | ⟨-, -, w3, -, -, -⟩
          · omega
          · rw [hn1 x hxa, w3] at z3
            exact .inl ⟨rfl, (Option.some.inj z3).symm⟩
      · refine ⟨_, _, rfl, sec_zero, fun hl => .inr (.inr ⟨rfl, ?_, rfl⟩)⟩
        by_cases hxa : (x : Int) = ati
        · exact hxa
        · rcases hput with ⟨w1, -⟩ | ⟨-, w2, w3, -, -, -⟩
          · omega
          · simp only [Prod.mk.injEq] at w2
            exact absurd (by rw [w2.2]) (z2 (blkOf ds[u]) (by omega) (by rw [Int.toNat_natCast, hn1 x hxa]; exact w3))
    have f60 := f69.trans f74
    obtain ⟨o74, -⟩ := f60.old o60 hF56
    refine ⟨secC t, e, rfl, fun g77 e77 => ⟨secC_len hst, _, stN_all (get_of_alloc e77) (by rw [secC_len hst]; simp), ?_⟩⟩
    have o77 := old_of_alloc e77
    have n77 := next_of_alloc e77
    have k78 := near_set g74.next g77 (.cells (secC t) 24 false)
    have c78 : (g77.set g74.next (.cells (secC t) 24 false)).get g74.next = _ := get_set_self _ _ _
    have o78 : Old g0 (g77.set g74.next (.cells (secC t) 24 false)) := (o74.trans o77).near k78 o74.1
    have f78 : Fr (p :: m :: Fd) g60 (g77.set g74.next (.cells (secC t) 24 false)) (p :: m :: Fd) := (f60.trans (o77.fr _)).near_new k78 f60.1
    have hn78 : g74.next < (g77.set g74.next (.cells (secC t) 24 false)).next := by rw [k78.1, n77]; omega
    have P78 := (P74.old o77).nearN k78 (fun q => absurd (P74.mem_lt _ q) (Nat.lt_irrefl _))
    have hc78 : (g77.set g74.next (.cells (secC t) 24 false)).get g60.next = some (.cells [.int .i64 x, .int .u64 y, .int .u32 z] 33 false) := by
      have h1 := f74.1
      rw [k69.1, n68] at h1
      rw [k78.2 _ (by omega), o77.2 _ (by omega)]
      exact hc74
    generalize g77.set g74.next (.cells (secC t) 24 false) = g78 at c78 o78 f78 hn78 P78 hc78
    obtain ⟨b2, off2, hb2, hud2, p81, n81, c81, hld81, tx81⟩ := (T0.old o78).at hun
    simp only [Option.some.injEq, Addr.mk.injEq, and_true] at hb2
    obtain ⟨rfl, rfl⟩ := hb2
    refine derefP_at ⟨by omega, by omega, p81, n81, c81, by rw [Int.toNat_natCast, Nat.mul_one]; exact hld81, (refBlock kB tx81.2.2.2.1).mono ?_⟩
    rintro _ g85 ⟨rfl, o85⟩
    have hsw : Sec (blkOf (ds[u].take 128)) := blk_sec (by rw [List.length_take]; omega) (fun x hx => tx81.2.2.2.2 x (List.mem_of_mem_take hx))
    have hlw := secC_len hsw
    refine ⟨_, rfl, fun g87 e87 => ⟨hlw, _, stN_all (get_of_alloc e87) (by rw [hlw]; simp), ?_⟩⟩
    have o87 := old_of_alloc e87
    have n87 := next_of_alloc e87
    have k88 := near_set g85.next g87 (.cells (secC (blkOf (ds[u].take 128))) 24 false)
    have cw : (g87.set g85.next (.cells (secC (blkOf (ds[u].take 128))) 24 false)).get g85.next = _ := get_set_self _ _ _
    have hle85 := o85.1
    have f88 : Fr (p :: m :: Fd) g60 (g87.set g85.next (.cells (secC (blkOf (ds[u].take 128))) 24 false)) (p :: m :: Fd) := ((f78.trans (o85.fr _)).trans (o87.fr _)).near_new k88 (Nat.le_trans f78.1 hle85)
    have P88 := ((P78.old o85).old o87).nearN k88 (fun q => absurd (P78.mem_lt _ q) (Nat.not_lt.2 hle85))
    have keep : ∀ c, c < g78.next → (g87.set g85.next (.cells (secC (blkOf (ds[u].take 128))) 24 false)).get c = g78.get c := fun c hc => by rw [k88.2 c (by omega), o87.2 c (by omega), o85.2 c hc]
    have ct : (g87.set g85.next (.cells (secC (blkOf (ds[u].take 128))) 24 false)).get g74.next = _ := (keep _ hn78).trans c78
    have hcx : (g87.set g85.next (.cells (secC (blkOf (ds[u].take 128))) 24 false)).get g60.next = _ := (keep _ (by have := f60.1; omega)).trans hc78
    obtain ⟨o88, -⟩ := f88.old o60 hF56
    have cr : (g87.set g85.next (.cells (secC (blkOf (ds[u].take 128))) 24 false)).get h.next = some (.cells (secC rot) 24 false) := (o88.2 _ (by omega)).trans hc0
    have sh88 := sh60.fr f88 hpf2
    generalize g87.set g85.next (.cells (secC (blkOf (ds[u].take 128))) 24 false) = g88 at *
    obtain ⟨b3, off3, hb3, hud3, p91, n91, c91, hld91, tx91⟩ := (T0.old o88).at hun
    simp only [Option.some.injEq, Addr.mk.injEq, and_true] at hb3
    obtain ⟨rfl, rfl⟩ := hb3
    have nx : ∀ i : Int, i = IntKind.wrap .i64 ((u : Int) + 1) → ∃ j78, j78 < n - u ∧ ∃ v : Nat, i = v ∧ v ≤ n ∧ n - v = j78 ∧ PileO g88 p (p :: m :: Fd) d m Fd W nw2 M 1 0 ∧ Old g0 g88 ∧ Shows g88 (some ⟨b, off, none⟩) n 3 (ptr3 qs) := by
      intro i ei
      have ei := i64w ei (by omega) (by omega)
      exact ⟨n - (u + 1), by omega, u + 1, by rw [ei]; rfl, hun, rfl, P88, o88, sh88⟩
    refine derefP_at ⟨by omega, by omega, p91, n91, c91, by rw [Int.toNat_natCast, Nat.mul_one]; exact hld91, fun _ => nx, fun q8 => ⟨_, ld1_at hcx rfl, ?_⟩⟩
    have hl : ds[u].length ≤ 128 := by have := tx91.2.1; omega
    rw [List.take_of_length_le hl] at cw hsw hlw
    have hcond := hcond hl
    have l1 := ldN_all ct (secC_len hst)
    have l2 := ldN_all cw hlw
    have l3 := ldN_all cr hrl
    have s1 := kSec hst
    have s2 := kSec hsw
    have s3 := kSec hrot
    have s4 := kSec sec_zero
    have hz : aBuild Try.prog 24 #[] = some (.agg (secC (List.replicate 128 0)).toArray) := by rw [← secC_zero]; exact zSec
    have no : ∀ {a b : List Nat} {X : Prop}, litsEq (secL a) (secL b) = false → a = b → X := fun q1 q2 => by rw [lits_sec, q2] at q1; simp at q1
    refine ⟨fun qa => ⟨fun qe => ⟨fun _ => ⟨_, l1, _, l2, _, _, s1, s2, fun _ => nx, fun z1 => ⟨_, l1, _, l3, _, _, s1, s3, fun _ => nx, fun z2 => ?_⟩⟩, fun z1 => absurd qe z1⟩, fun qe => ⟨fun q91 => ⟨_, l1, _, hz, _, _, s1, s4, fun _ => ⟨fun z1 => absurd z1 qe, fun _ => nx⟩, fun z1 => ?_⟩, fun q91 => ?_⟩⟩,
      fun qa => ⟨fun qe => ⟨_, l1, _, l2, _, _, s1, s2, fun _ => ⟨fun _ => ⟨fun _ => ⟨_, l1, _, l2, _, _, s1, s2, fun _ => nx, fun z1 => ⟨_, l1, _, l3, _, _, s1, s3, fun _ => nx, fun z2 => ?_⟩⟩, fun z1 => absurd qe z1⟩, fun z1 => absurd qe z1⟩, fun z1 => ?_⟩, fun qe => ?_⟩⟩
    · rcases hcond with ⟨-, w⟩ | ⟨-, -, w⟩ | ⟨w, -⟩
      · exact no z1 w
      · exact no z2 w
      · omega
    · rcases hcond with ⟨w, -⟩ | ⟨w, -⟩ | ⟨-, -, w⟩
      · exact absurd w qe
      · exact absurd w qe
      · exact no z1 w
    · rcases hcond with ⟨w, -⟩ | ⟨w, -⟩ | ⟨w, -⟩
      · exact absurd w qe
      · exact absurd w qe
      · exact absurd w q91
    · rcases hcond with ⟨-, w⟩ | ⟨-, w, -⟩ | ⟨-, w, -⟩
      · exact no z1 w
      · exact absurd w qa
      · exact absurd w qa
    · rcases hcond with ⟨-, w⟩ | ⟨-, w, -⟩ | ⟨-, w, -⟩
      · exact no z1 w
      · exact absurd w qa
      · exact absurd w qa
    · rcases hcond with ⟨w, -⟩ | ⟨-, w, -⟩ | ⟨-, w, -⟩
      · exact absurd w qe
      · exact absurd w qa
      · exact absurd w qa
theorem rda3 {P : Program} {g : Nat} {t1 t2 t3 : TypeId} {h : AH} : ∀ {vs : List Value}, RdA P h g [t1, t2, t3] vs → ∃ a b c, vs = [a, b, c] ∧ RdV P h g t1 a ∧ RdV P h g t2 b ∧ RdV P h g t3 c
  | [a, b, c], r => ⟨a, b, c, rfl, r.1, r.2.1, r.2.2.1⟩
theorem rdv_texts {h : AH} {g : Nat} {a : Value} (r : RdV Try.prog h g 22 a) : Rd Try.prog h g 22 [a] := by
  unfold RdV at r
  rw [Try.underlying22] at r
  exact r
theorem reads_args {h : AH} {vs : List Value} (r : RdA Try.prog h 8 [22, 3, 24] vs) :
    ∃ pa na ca ds ati rot, vs = [.slice pa na ca, .int .i64 ati, .agg (secC rot).toArray] ∧ Texts h pa na ds ∧ Sec rot := by
  obtain ⟨a, b, c, rfl, r1, r2, r3⟩ := rda3 r
  obtain ⟨pa, na, ca, ds, rfl, T⟩ := rd_texts (g := 5) (rdv_texts r1)
  obtain ⟨ati, rfl, -⟩ := rd_int (g := 7) r2
  obtain ⟨rot, rfl, hr⟩ := rd_sec (g := 6) r3
  exact ⟨pa, na, ca, ds, ati, rot, rfl, T, hr⟩
end
end Go.Am
