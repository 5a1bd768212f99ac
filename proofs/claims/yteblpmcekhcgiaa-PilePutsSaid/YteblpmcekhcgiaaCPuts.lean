/-
  BLOCKS THAT ARE PUT LIE IN UNLIKE SECTORS, and what is put at a sector is there: the law of the pile, as the abstract machine runs it.
-/
import Derived.Test.YteblpmcekhcgiaaCText
import Derived.Test.YteblpmcekhcgiaaVPileL
import Derived.Test.YteblpmcekhcgiaaCLives
import Derived.Test.YteblpmcekhcgiaaCReads
import Derived.Test.YteblpmcekhcgiaaCPutAt
set_option linter.unusedVariables false
set_option linter.unusedSimpArgs false
set_option maxRecDepth 100000
namespace Go.Am
open Go.Proofs
/-- Which sectors are taken, as bits. -/
def takC (M : List Nat) : List Value := (List.range 64).map fun s => .bool (decide (M[s]? = some 2))
theorem takC_new : takC (newM 64) = List.replicate 64 (.bool false) := by kernel_rfl
theorem takC_len (M : List Nat) : (takC M).length = 64 := by simp [takC]
theorem takC_get {M : List Nat} {i : Nat} (hi : i < 64) : (takC M)[i]? = some (.bool (decide (M[i]? = some 2))) := by simp [takC, hi]
theorem takC_set {M : List Nat} {i : Nat} (hi : i < M.length) : (takC M).set i (.bool true) = takC (M.set i 2) := by
  apply List.ext_getElem?
  intro j
  rw [List.getElem?_set, takC_len]
  by_cases hj : j < 64
  · rw [takC_get hj, takC_get hj, List.getElem?_set]
    by_cases hij : i = j
    · subst hij
      rw [if_pos rfl, if_pos hj, if_pos rfl, if_pos hi]
      simp
    · rw [if_neg hij, if_neg hij]
  · rw [List.getElem?_eq_none (l := takC M) (by rw [takC_len]; omega), List.getElem?_eq_none (l := takC (M.set i 2)) (by rw [takC_len]; omega)]
    split
    · rw [if_neg (by omega)]
    · rfl
theorem Texts.at2 {h g : AH} {p : Option Addr} {n : Nat} {ds : List (List Nat)} (t : Texts h p n ds) (o : Old h g) {i : Nat} (hi : i < n) : ∃ b off, p = some ⟨b, off, none⟩ ∧ ∃ (hi' : i < ds.length), ∃ p' n' c', ld1 g b (off + i) = some (.slice p' n' c') ∧ Text h p' n' ds[i] := by
  obtain ⟨t1, t2, cells, t3, t4⟩ := t
  obtain ⟨b, off, hp, hld⟩ := (t3.old o).get hi
  obtain ⟨p', n', c', q1, q2⟩ := t4 i (by omega)
  exact ⟨b, off, hp, by omega, p', n', c', by rw [hld, q1], q2⟩
section
variable {K : Xs}
/-- What holds while texts are put. -/
def SInv (g0 : AH) (bi p d m na : Nat) (i12 i13 : Int) (k : Nat) (g : AH) : Prop :=
  ∃ (mm j : Nat) (F : List Nat) (W : Nat) (Fd : List Nat) (nw : List (List Nat)) (M : List Nat), i12 = mm ∧ i13 = j ∧ j ≤ na ∧ na - j = k ∧ PileO g p F d m Fd W nw M 1 0 ∧ W ≤ j ∧ nw.length = 64 ∧ Old g0 g ∧ (∀ c ∈ F, g0.next ≤ c) ∧
    g.get bi = some (.cells (takC M) 50 false) ∧ bi ∉ F ∧ bi < g.next ∧ g0.next ≤ bi ∧ M.count 1 + mm = 60 ∧ M.length = 1024
theorem zIn : aBuild Try.prog 50 #[] = some (.agg (List.replicate 64 (Value.bool false)).toArray) := by kernel_rfl
theorem zX : aBuild Try.prog 24 #[(0, .int .u8 120)] = some (.agg (secC (blkOf [120])).toArray) := by kernel_rfl
theorem cX (g : AH) (b n c : Nat) {cs : List Value} {e : TypeId} (hb : g.get b = some (.cells cs e false)) : aConvert Try.prog g 29 29 (.slice (some ⟨b, 0, none⟩) n c) = some (.slice (some ⟨b, 0, none⟩) n c, g.set b (.cells cs e false)) := by
  unfold aConvert
  rw [Try.underlying29]
  simp only [Try.underlying5, hb, if_pos trivial]
theorem putsTrue (hk : K 5 = none) (ha : K 7 = some (.sum xTrue)) (k1 : K 8 = none) (k2 : K 27 = none) (k3 : K 28 = none) (k4 : K 26 = none)
    (kP : K 9 = none) (kw : K 30 = none) (kG : K 12 = none) (kA' : K 20 = none) (kB : K 13 = none)
    (mA : K 29 = none) (mi : K 52 = none) (ms : K 51 = none)
    (dW : K 53 = none) (dR : K 33 = none) (dc : K 55 = none) (dh : K 32 = none) (ds' : K 65 = none) (sO : K 34 = none) (sM : K 56 = some (.sum xMore))
    (kT : K 38 = none) (kAll : K 58 = some (.sum (xAll 121))) (kH : K 37 = none) (kE : K 57 = none) (kE1 : K 66 = none) (kR : K 67 = none) (kS : K 72 = none)
    {h : AH} {pa : Option Addr} {na ca : Nat} {ds : List (List Nat)} (T : Texts h pa na ds) (ati : Int) :
    Wf Try.prog K 5 [.slice pa na ca, .int .i64 ati] h fun v _ => v = .bool true := by
  refine vc_aquiferlaw09_PilePuts hk _ _ _ _ h _ (Wf_sum ha (v := .bool true) (h' := h) rfl (Nat.le_refl _) (.inl ⟨rfl, fun _ => rfl, fun q1 => ?_⟩))
  refine (made k1 k2 k3 k4 ms 64 (by decide) h).mono ?_
  rintro _ g3 ⟨p, F0, d, m, Fd0, rfl, P3, o3, hF3⟩
  refine ⟨_, rfl, _, zIn, fun g6 e6 => ⟨by simp, _, stN_all (get_of_alloc e6) (by simp), ?_⟩⟩
  have o6 := old_of_alloc e6
  have n6 := next_of_alloc e6
  have k7 := near_set g3.next g6 (.cells (List.replicate 64 (.bool false)) 50 false)
  have hbF : g3.next ∉ F0 := fun q => absurd (P3.mem_lt _ q) (Nat.lt_irrefl _)
  refine ⟨SInv h g3.next p d m na, ⟨na, 0, 0, F0, 0, Fd0, _, _, rfl, rfl, Nat.zero_le _, rfl, (P3.old o6).nearN k7 hbF, Nat.le_refl _, by simp, (o3.trans o6).near k7 o3.1, hF3, by rw [get_set_self, takC_new], hbF, by rw [k7.1, n6]; omega, o3.1, by rw [new_free], newM_len 64⟩, ?_⟩
  rintro k g9 i12 i13 ⟨mm, j, F, W, Fd, nw, M, rfl, rfl, hj, rfl, P9, hW, hnw, o9, hF, hbi, hbF, hbl, hbg, hcnt, hML⟩
  refine ⟨fun q5 => ?_, fun q5 => ?_⟩
  · -- one is put
    have hjn : j < na := by omega
    obtain ⟨b, off, rfl, hjd, p17, n18, c19, hld, tx⟩ := T.at2 o9 hjn
    generalize ds[j] = data at tx
    refine derefP_at ⟨by omega, q5, p17, n18, c19, by rw [Int.toNat_natCast, Nat.mul_one]; exact hld, fun g20 e20 => ?_⟩
    have o20 := old_of_alloc e20
    obtain ⟨tx1, tx2, tx3, tx4, tx5⟩ := tx.old (o9.trans o20)
    have hgl : Grow g9.next g20 5 1 (some ⟨g9.next, 0, none⟩) 0 0 [] := Grow.lit e20 rfl (Nat.le_refl _)
    obtain ⟨p21, c23, g24, k24, hg24, hob, -, -⟩ := hgl.append eBytes o20.1 (x := .slice p17 n18 c19) (m := n18) rfl (tx4.firstC tx1) tx4.1 (by simp only [reachBytes, roomMax] at *; omega) (by simp only [reachBytes] at *; omega) ⟨_, eBytes.1⟩
    refine ⟨p21, _, c23, g24, k24, ?_⟩
    have o24 : Old g9 g24 := (o20.toB (Nat.le_refl _)).trans hob
    have P24 := P9.old o24
    have hsh : Shows g24 p21 (0 + n18) 1 (natC .u8 data) := hg24.shows
    have hp21 : p21 = none ∨ ∃ b off, p21 = some ⟨b, off, none⟩ := by
      rcases hg24.2 with z | ⟨b, hp, -⟩
      · exact .inl z.1
      · exact .inr ⟨b, 0, hp⟩
    have hda : ∀ a, p21 = some a → a.block ∉ F := by
      intro a ha' q
      rcases hg24.2 with z | ⟨b, hp, hl, -⟩
      · rw [z.1] at ha'; cases ha'
      · rw [hp] at ha'
        simp only [Option.some.injEq] at ha'
        subst ha'
        exact absurd (P9.mem_lt _ q) (Nat.not_lt.2 hl)
    have oo24 : Old h g24 := o9.trans o24
    have cb24 : g24.get g3.next = _ := (o24.2 _ hbl).trans hbi
    have l24 : g3.next < g24.next := Nat.lt_of_lt_of_le hbl o24.1
    -- what stands behind a put
    have aft : ∀ (g26 : AH) (F' : List Nat) (Fd' : List Nat) (W' : Nat) (nw' : List (List Nat)) (M' : List Nat) (x y z : Nat), PileO g26 p F' d m Fd' W' nw' M' 1 0 → Fr F g24 g26 F' →
        ∀ g31 : AH, g31 = g26.alloc (.cells [.int .i64 0, .int .u64 0, .int .u32 0] 33 false) → ∀ cs, PileO (g31.set g26.next (.cells cs 33 false)) p F' d m Fd' W' nw' M' 1 0 ∧ Old h (g31.set g26.next (.cells cs 33 false)) ∧
          (∀ c ∈ F', h.next ≤ c) ∧ (g31.set g26.next (.cells cs 33 false)).get g3.next = some (.cells (takC M) 50 false) ∧ g3.next ∉ F' ∧ g3.next < (g31.set g26.next (.cells cs 33 false)).next ∧ (g31.set g26.next (.cells cs 33 false)).get g26.next = some (.cells cs 33 false) ∧ g26.next ∉ F' ∧ g26.next < (g31.set g26.next (.cells cs 33 false)).next ∧ g3.next < g26.next := by
      intro g26 F' Fd' W' nw' M' x y z P26 f26 g31 e31 cs
      have o31 := old_of_alloc e31
      have n31 := next_of_alloc e31
      have k32 := near_set g26.next g31 (.cells cs 33 false)
      have hnF : g26.next ∉ F' := fun q => absurd (P26.mem_lt _ q) (Nat.lt_irrefl _)
      obtain ⟨oo26, hF26⟩ := f26.old oo24 hF
      have hl26 := f26.1
      have hb26 : g3.next ∉ F' := fun q => (f26.2.2 _ q).elim hbF (fun z => by omega)
      exact ⟨(P26.old o31).nearN k32 hnF, (oo26.trans o31).near k32 oo26.1, hF26, by rw [k32.2 _ (by omega), o31.2 _ (by omega), f26.2.1 _ l24 hbF]; exact cb24, hb26, by rw [k32.1, n31]; omega, get_set_self _ _ _, hnF, by rw [k32.1, n31]; omega, by omega⟩
    refine (pilePut kP mA mi ms kw dW dc dh ds' sO sM P24 (by omega) hsh hp21 hda tx5).mono ?_
    rintro v g26 (⟨q6, rfl, P26, f26⟩ | ⟨q6, s, hs, hMs, rfl, Fd', P26, f26⟩ | ⟨q6, q7, rfl, P26, f26⟩)
    · refine ⟨_, _, _, _, rfl, fun g31 e31 => ⟨rfl, _, stN_all (get_of_alloc e31) rfl, fun _ => ⟨fun _ i32 e32 => ?_, fun q => absurd rfl q⟩, fun q => absurd (show (128 : Int) < ((n18 : Nat) : Int) by omega) q⟩⟩
      have e32 := i64w e32 (by omega) (by omega)
      obtain ⟨a1, a2, a3, a4, a5, a6, -⟩ := aft g26 _ _ _ _ _ 0 0 0 P26 f26 g31 e31 [.int .i64 0, .int .u64 0, .int .u32 0]
      exact ⟨na - (j + 1), by omega, mm, j + 1, F, W, Fd, nw, M, rfl, by rw [e32]; rfl, hjn, rfl, a1, by omega, hnw, a2, a3, a4, a5, a6, hbg, hcnt, hML⟩
    · have hw := P24.within s 1 hMs (by decide)
      have hc1 := count_pos hMs
      have hs64 : s < 64 := by omega
      have hsec := blk_sec q6 tx5
      have hlen := secC_len hsec
      refine ⟨_, _, _, _, rfl, fun g31 e31 => ⟨rfl, _, stN_all (get_of_alloc e31) rfl, fun q => absurd q (by omega), fun _ => ⟨fun q => absurd q (by omega), fun _ => ⟨_, _, _, ldN_all (get_set_self _ _ _) rfl, ?_⟩⟩⟩⟩
      obtain ⟨a1, a2, a3, a4, a5, a6, a7, a8, a9, a10⟩ := aft g26 _ _ _ _ _ 0 0 0 P26 f26 g31 e31 [.int .i64 (s : Nat), .int .u64 1, .int .u32 (crcOf (blkOf data) : Nat)]
      generalize g31.set g26.next (.cells [.int .i64 (s : Nat), .int .u64 1, .int .u32 (crcOf (blkOf data) : Nat)] 33 false) = g32 at a1 a2 a3 a4 a5 a6 a7 a8 a9
      have hwf : PtrWf ((s : Nat) : Int) 1 (crcOf (blkOf data) : Nat) := ptr_wf (by omega) (by decide) (crcOf_lt hsec.2)
      refine (pileGet kG dR dc dh sO sM a1 hwf).mono ?_
      rintro v g38 ⟨P38, f38, hv⟩
      have hnws : (nw.set s (blkOf data))[s]? = some (blkOf data) := by rw [List.getElem?_set, if_pos rfl, if_pos hs]
      obtain rfl : v = .tuple #[.agg (secC (blkOf data)).toArray, .int .i64 0] := by
        rcases hv with ⟨z1, -, -, -⟩ | ⟨-, t, -, z3, -, rfl⟩ | ⟨-, z2, -⟩
        · omega
        · rw [Int.toNat_natCast, hnws] at z3
          cases z3
          rfl
        · exact absurd rfl (z2 _ (by omega) (by rw [Int.toNat_natCast]; exact hnws))
      refine ⟨_, _, rfl, fun g41 e41 => ⟨hlen, _, stN_all (get_of_alloc e41) (by rw [hlen]; simp), fun _ => ⟨fun _ => ?_, fun q => absurd rfl q⟩, fun q => absurd rfl q⟩⟩
      have o41 := old_of_alloc e41
      have n41 := next_of_alloc e41
      have k42 := near_set g38.next g41 (.cells (secC (blkOf data)) 24 false)
      have l38 := f38.1
      have n38F : g38.next ∉ (p :: m :: Fd') := fun q => absurd (P38.mem_lt _ q) (Nat.lt_irrefl _)
      have P42 := (P38.old o41).nearN k42 n38F
      obtain ⟨oo38, hF38⟩ := f38.old a2 a3
      have oo42 : Old h (g41.set g38.next (.cells (secC (blkOf data)) 24 false)) := (oo38.trans o41).near k42 oo38.1
      have keep42 : ∀ c, c < g32.next → c ∉ (p :: m :: Fd') → (g41.set g38.next (.cells (secC (blkOf data)) 24 false)).get c = g32.get c := fun c hc hn => by rw [k42.2 _ (by omega), o41.2 _ (by omega), f38.2.1 _ hc hn]
      have c42 := keep42 _ a9 a8
      rw [a7] at c42
      have b42 := keep42 _ a6 a5
      rw [a4] at b42
      have s42 : (g41.set g38.next (.cells (secC (blkOf data)) 24 false)).get g38.next = _ := get_set_self _ _ _
      have l42 : g38.next < (g41.set g38.next (.cells (secC (blkOf data)) 24 false)).next := by rw [k42.1, n41]; omega
      generalize g41.set g38.next (.cells (secC (blkOf data)) 24 false) = g42 at P42 oo42 c42 b42 s42 l42
      refine ⟨_, ld1_at c42 rfl, by omega, by omega, .inr ⟨?_, ?_⟩⟩
      · rw [Int.toNat_natCast, Nat.mul_one, Nat.zero_add]
        exact ld1_at b42 (by rw [takC_get hs64, hMs]; rfl)
      have tx42 := tx.old oo42
      refine (refBlock kB tx42.2.2.2.1).mono ?_
      rintro _ g45 ⟨rfl, o45⟩
      rw [List.take_of_length_le q6]
      have l1 : ldN g45 g38.next 0 128 = some (secC (blkOf data)) := ldN_all ((o45.2 _ l42).trans s42) hlen
      have ks := kSec hsec
      refine ⟨_, rfl, _, l1, _, _, ks, ks, fun _ => self_sec ⟨ldN_all s42 hlen, self_sec ⟨l1, ?_⟩⟩, fun z => ?_⟩
      · have l42' : g3.next < g42.next := by omega
        have b45 := (o45.2 _ l42').trans b42
        have c45 := (o45.2 _ (show g26.next < g42.next by omega)).trans c42
        refine ⟨_, ld1_at c45 rfl, by omega, by omega, _, st1_of b45 (by rw [takC_len, Int.toNat_natCast]; omega), fun i52 e52 i53 e53 => ?_⟩
        have e52 := i64w e52 (by omega) (by omega)
        have e53 := i64w e53 (by omega) (by omega)
        have k51 := near_set g3.next g45 (.cells ((takC M).set (0 + Int.toNat ((s : Nat) : Int) * 1) (.bool true)) 50 false)
        have hcs := count_setN hMs 1 (b := 2)
        refine ⟨na - (j + 1), by omega, mm + 1, j + 1, _, W + 1, Fd', _, M.set s 2, by rw [e52]; rfl, by rw [e53]; rfl, hjn, rfl, (P42.old o45).nearN k51 a5, by omega, by rw [List.length_set]; exact hnw, (oo42.trans o45).near k51 o3.1, hF38, ?_, a5, by rw [k51.1]; exact Nat.lt_of_lt_of_le l42' o45.1, hbg, by rw [hcs]; simp; omega, by rw [List.length_set]; exact hML⟩
        rw [get_set_self, Int.toNat_natCast, Nat.mul_one, Nat.zero_add, takC_set (by omega)]
      · rw [lits_sec] at z
        simp at z
    · have hc0 : M.count 1 = 0 := List.count_eq_zero.2 q7
      refine ⟨_, _, _, _, rfl, fun g31 e31 => ⟨rfl, _, stN_all (get_of_alloc e31) rfl, fun q => absurd q (by omega), fun _ => ⟨fun _ => ⟨fun _ i33 e33 => ?_, fun q => absurd rfl q⟩, fun q => absurd (show ((mm : Nat) : Int) = 60 by omega) q⟩⟩⟩
      have e33 := i64w e33 (by omega) (by omega)
      obtain ⟨a1, a2, a3, a4, a5, a6, -⟩ := aft g26 _ _ _ _ _ 0 0 0 P26 f26 g31 e31 [.int .i64 0, .int .u64 0, .int .u32 0]
      exact ⟨na - (j + 1), by omega, mm, j + 1, F, W, Fd, nw, M, rfl, by rw [e33]; rfl, hjn, rfl, a1, by omega, hnw, a2, a3, a4, a5, a6, hbg, hcnt, hML⟩
  · -- what is put at a sector
    refine ⟨fun _ => rfl, fun q6 => ⟨fun _ => rfl, fun q7 g54 e54 => ?_⟩⟩
    obtain ⟨a, rfl⟩ : ∃ a : Nat, ati = a := ⟨ati.toNat, by omega⟩
    have ha64 : a < 64 := by omega
    have o54 := old_of_alloc e54
    have n54 := next_of_alloc e54
    have k58 := near_set g9.next g54 (.cells [.int .u8 120] 5 false)
    refine ⟨_, _, _, _, cX g54 _ _ _ (get_of_alloc e54), ?_⟩
    have n9F : g9.next ∉ F := fun q => absurd (P9.mem_lt _ q) (Nat.lt_irrefl _)
    have P58 := (P9.old o54).nearN k58 n9F
    have c58 : (g54.set g9.next (.cells [.int .u8 120] 5 false)).get g9.next = some (.cells (natC .u8 [120]) 5 false) := get_set_self _ _ _
    have b58 : (g54.set g9.next (.cells [.int .u8 120] 5 false)).get g3.next = _ := (k58.2 _ (by omega)).trans ((o54.2 _ hbl).trans hbi)
    have l58 : (g54.set g9.next (.cells [.int .u8 120] 5 false)).next = g9.next + 1 := by rw [k58.1, n54]
    generalize g54.set g9.next (.cells [.int .u8 120] 5 false) = g58 at P58 c58 b58 l58
    have sh : Shows g58 (some ⟨g9.next, 0, none⟩) 1 1 (natC .u8 [120]) := ⟨rfl, .inr ⟨_, 0, _, _, _, rfl, by omega, c58, by decide, rfl⟩⟩
    refine (pilePutAt kA' kT kAll kH kE kE1 kR kS kw dW dc dh ds' sO sM P58 (by omega) a sh (.inr ⟨_, _, rfl⟩) (by decide)).mono ?_
    rintro v g60 (⟨z, -⟩ | ⟨-, hM2, rfl, Fd', P60, f60⟩ | ⟨-, hM2, rfl, P60, f60⟩)
    · exact absurd z (by decide)
    · refine ⟨_, _, _, _, rfl, fun g65 e65 => ⟨rfl, _, stN_all (get_of_alloc e65) rfl, by omega, by omega, .inl ?_⟩⟩
      have o65 := old_of_alloc e65
      have n65 := next_of_alloc e65
      have k66 := near_set g60.next g65 (.cells [.int .i64 (a : Nat), .int .u64 1, .int .u32 (crcOf (blkOf [120]) : Nat)] 33 false)
      have l60 := f60.1
      have b66 : (g65.set g60.next (.cells [.int .i64 (a : Nat), .int .u64 1, .int .u32 (crcOf (blkOf [120]) : Nat)] 33 false)).get g3.next = _ := (k66.2 _ (by omega)).trans ((o65.2 _ (by omega)).trans ((f60.2.1 _ (by omega) hbF).trans b58))
      have c66 : (g65.set g60.next (.cells [.int .i64 (a : Nat), .int .u64 1, .int .u32 (crcOf (blkOf [120]) : Nat)] 33 false)).get g60.next = _ := get_set_self _ _ _
      have n60F : g60.next ∉ (p :: m :: Fd') := fun q => absurd (P60.mem_lt _ q) (Nat.lt_irrefl _)
      have P66 := (P60.old o65).nearN k66 n60F
      have l66 : g60.next < (g65.set g60.next (.cells [.int .i64 (a : Nat), .int .u64 1, .int .u32 (crcOf (blkOf [120]) : Nat)] 33 false)).next := by rw [k66.1, n65]; omega
      generalize g65.set g60.next (.cells [.int .i64 (a : Nat), .int .u64 1, .int .u32 (crcOf (blkOf [120]) : Nat)] 33 false) = g66 at P66 b66 c66 l66
      have hin : ld1 g66 g3.next (0 + Int.toNat ((a : Nat) : Int) * 1) = some (.bool true) := ld1_at b66 (by rw [Int.toNat_natCast, Nat.mul_one, Nat.zero_add, takC_get ha64, hM2]; rfl)
      have hsec : Sec (blkOf [120]) := blk_sec (by decide) (by decide)
      have hlen := secC_len hsec
      have ha : (nw.set a (blkOf [120]))[a]? = some (blkOf [120]) := by rw [List.getElem?_set, if_pos rfl, if_pos (by omega)]
      have h4 := (P9.within a 2 hM2 (by decide)).1
      refine ⟨hin, _, _, _, ldN_all c66 rfl, (pileGet kG dR dc dh sO sM P66 (ptr_wf (by omega) (by decide) (crcOf_lt hsec.2))).mono ?_⟩
      rintro v g71 ⟨P71, f71, hv⟩
      obtain rfl : v = .tuple #[.agg (secC (blkOf [120])).toArray, .int .i64 0] := by
        rcases hv with ⟨z1, -, -, -⟩ | ⟨-, t, -, z3, -, rfl⟩ | ⟨-, z2, -⟩
        · omega
        · rw [Int.toNat_natCast, ha] at z3
          cases z3
          rfl
        · exact absurd rfl (z2 _ (by omega) (by rw [Int.toNat_natCast]; exact ha))
      have l71 := f71.1
      refine ⟨_, _, rfl, fun g74 e74 => ⟨hlen, _, stN_all (get_of_alloc e74) (by rw [hlen]; simp), fun _ => ⟨fun _ => ?_, fun q => absurd rfl q⟩, fun q => absurd rfl q⟩⟩
      have o74 := old_of_alloc e74
      have k75 := near_set g71.next g74 (.cells (secC (blkOf [120])) 24 false)
      have c75 : (g74.set g71.next (.cells (secC (blkOf [120])) 24 false)).get g60.next = _ := (k75.2 _ (by omega)).trans ((o74.2 _ (by omega)).trans ((f71.2.1 _ (by omega) n60F).trans c66))
      have ks := kSec hsec
      refine ⟨_, ld1_at c75 rfl, fun _ => ⟨_, ldN_all (get_set_self _ _ _) hlen, _, zX, _, _, ks, ks, fun _ => rfl, fun z => ?_⟩, fun q => absurd rfl q⟩
      rw [lits_sec] at z
      simp at z
    · refine ⟨_, _, _, _, rfl, fun g65 e65 => ⟨rfl, _, stN_all (get_of_alloc e65) rfl, by omega, by omega, .inr ⟨?_, fun _ => rfl, fun q => absurd rfl q⟩⟩⟩
      have o65 := old_of_alloc e65
      have n65 := next_of_alloc e65
      have l60 := f60.1
      have k66 := near_set g60.next g65 (.cells [.int .i64 0, .int .u64 0, .int .u32 0] 33 false)
      exact ld1_at ((k66.2 _ (by omega)).trans ((o65.2 _ (by omega)).trans ((f60.2.1 _ (by omega) hbF).trans b58))) (by rw [Int.toNat_natCast, Nat.mul_one, Nat.zero_add, takC_get ha64, decide_eq_false hM2])
theorem rda2 {P : Program} {g : Nat} {t1 t2 : TypeId} {h : AH} : ∀ {vs : List Value}, RdA P h g [t1, t2] vs → ∃ a b, vs = [a, b] ∧ RdV P h g t1 a ∧ RdV P h g t2 b
  | [a, b], r => ⟨a, b, rfl, r.1, r.2.1⟩
theorem puts_args {h : AH} {vs : List Value} (r : RdA Try.prog h 8 [22, 3] vs) :
    ∃ pa na ca ds ati, vs = [.slice pa na ca, .int .i64 ati] ∧ Texts h pa na ds := by
  obtain ⟨a, b, rfl, r1, r2⟩ := rda2 r
  obtain ⟨pa, na, ca, ds, rfl, T⟩ := rd_texts (g := 5) (rdv_texts r1)
  obtain ⟨ati, rfl, -⟩ := rd_int (g := 7) r2
  exact ⟨pa, na, ca, ds, ati, rfl, T⟩
end
end Go.Am
