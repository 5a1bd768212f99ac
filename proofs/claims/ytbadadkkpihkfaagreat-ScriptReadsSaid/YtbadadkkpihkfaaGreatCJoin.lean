/-
  TEXTS JOINED: the program's and the document's.
-/
import Derived.Test.YtbadadkkpihkfaaGreatCField
set_option linter.unusedVariables false
set_option linter.unusedSimpArgs false
set_option maxRecDepth 100000
namespace Go.Am
open Go.Proofs
/-- Something is appended while there is room. -/
theorem GrowC.appendX {P : Program} {lim : Nat} {h : AH} {st elem : TypeId} {sz by' : Nat} {b n c : Nat} {cs : List Value} (g : GrowC lim h elem sz b n c cs) (E : ElemOk P st elem sz by')
    {x : Value} {m : Nat} {ns : List Value} (hx : lenV x = some m) (hfn : firstC h sz m x = some ns) (hns : ns.length = m * sz) (hroom : n + m ≤ c) :
    ∃ h', aBuiltin P h .append #[st, st] [.slice (some ⟨b, 0, none⟩) n c, x] = some (.slice (some ⟨b, 0, none⟩) (n + m) c, h') ∧ GrowC lim h' elem sz b (n + m) c (cs ++ ns) ∧ Near b h h' := by
  have gs := g.shows
  obtain ⟨h1, h2, h3, h4', h5, rest, h6, h7⟩ := g
  obtain ⟨hu, i, z, hi, hz, hzs, hpos, rfl, rfl⟩ := E
  have hfc : firstC h i.size n (.slice (some ⟨b, 0, none⟩) n c) = some cs := gs.firstC (.inr ⟨b, 0, rfl⟩)
  rw [List.length_append] at h7
  have hns2 : ns.length ≤ rest.length := by
    have : (n + m) * i.size ≤ c * i.size := Nat.mul_le_mul_right _ hroom
    rw [Nat.add_mul] at this
    omega
  cases m with
  | zero =>
    have : ns = [] := by simpa using hns
    subst this
    refine ⟨h, ?_, ⟨by simpa using h1, h2, h3, h4', h5, rest, by simpa using h6, by simpa using h7⟩, rfl, fun _ _ => rfl⟩
    rw [aBuiltin_append hu]
    unfold aAppend
    simp only [hu, hi, hx, hfc, hfn, hz]
    rw [if_pos ⟨hzs, hpos, hns, h1⟩, if_neg (by omega), if_pos hroom]
    rfl
  | succ m' =>
    refine ⟨h.set b (.cells (cs ++ ns ++ rest.drop ns.length) elem false), ?_, ⟨by rw [List.length_append, h1, hns, ← Nat.add_mul], h2, h3, hroom, h5, rest.drop ns.length, get_set_self _ _ _, ?_⟩, rfl, fun x hx => get_set_ne hx⟩
    · rw [aBuiltin_append hu]
      unfold aAppend
      simp only [hu, hi, hx, hfc, hfn, hz]
      rw [if_pos ⟨hzs, hpos, hns, h1⟩, if_neg (by omega), if_pos hroom]
      have : aStoreCells h b (0 + n * i.size) ns = some (h.set b (.cells (cs ++ ns ++ rest.drop ns.length) elem false)) := by
        unfold aStoreCells
        rw [h6]
        simp only
        rw [if_pos (by rw [List.length_append]; omega), Nat.zero_add, ← h1, List.take_left, List.drop_append]
        rw [List.drop_eq_nil_of_le (by omega), List.nil_append, show cs.length + ns.length - cs.length = ns.length by omega]
      rw [this]
    · rw [List.length_append, List.length_append, List.length_drop]; omega
/-- A row of texts in memory. -/
def Rows (h : AH) (p : Option Addr) (n : Nat) (ts : List Bs) : Prop := n = ts.length ∧ ∃ cells, Shows h p n 1 cells ∧ ∀ (i : Nat) (hi : i < ts.length), ∃ p' n' c', cells[i]? = some (.slice p' n' c') ∧ Text h p' n' ts[i]
theorem Rows.old {h h' : AH} {p : Option Addr} {n : Nat} {ts : List Bs} (t : Rows h p n ts) (o : Old h h') : Rows h' p n ts := by
  obtain ⟨t2, cells, t3, t4⟩ := t
  refine ⟨t2, cells, t3.old o, fun i hi => ?_⟩
  obtain ⟨p', n', c', q1, q2⟩ := t4 i hi
  exact ⟨p', n', c', q1, q2.old o⟩
theorem Rows.at {h : AH} {p : Option Addr} {n : Nat} {ts : List Bs} (t : Rows h p n ts) {i : Nat} (hi : i < n) : ∃ b off, p = some ⟨b, off, none⟩ ∧ ∃ (hi' : i < ts.length), ∃ p' n' c', ld1 h b (off + i) = some (.slice p' n' c') ∧ Text h p' n' ts[i] := by
  obtain ⟨t2, cells, t3, t4⟩ := t
  obtain ⟨b, off, hp, hld⟩ := t3.get hi
  obtain ⟨p', n', c', q1, q2⟩ := t4 i (by omega)
  exact ⟨b, off, hp, by omega, p', n', c', by rw [hld, q1], q2⟩
theorem shr8_i64 (n : Nat) : aShift .shr .i64 (n : Int) 8 = some (.int .i64 ((n / 256 : Nat) : Int)) := by
  unfold aShift
  rw [if_neg (by omega)]
  have h1 : min ((8 : Int)).toNat (IntKind.bits .i64) = 8 := by decide
  simp only [h1]
  congr 2
  rw [Int.fdiv_eq_ediv_of_nonneg _ (by decide)]
  omega
theorem shl8_i64 {x : Nat} (hx : x < 256) : aShift .shl .i64 (x : Int) 8 = some (.int .i64 ((256 * x : Nat) : Int)) := by
  unfold aShift
  rw [if_neg (by omega)]
  have h1 : min ((8 : Int)).toNat (IntKind.bits .i64) = 8 := by decide
  simp only [h1]
  have e : (x : Int) * 2 ^ 8 = ((256 * x : Nat) : Int) := by omega
  rw [e, wrap_i64 (by omega) (by omega)]
theorem or8_i64 {a b : Nat} (ha : a < 256) (hb : b < 256) : aInt .or .i64 (a : Int) ((256 * b : Nat) : Int) = some (.int .i64 ((a + 256 * b : Nat) : Int)) := by
  unfold aInt
  simp only
  congr 2
  have h1 : BitVec.ofInt (IntKind.bits .i64) (a : Int) = BitVec.ofNat 64 a := by exact BitVec.ofInt_natCast 64 a
  have h2 : BitVec.ofInt (IntKind.bits .i64) ((256 * b : Nat) : Int) = BitVec.ofNat 64 (256 * b) := by exact BitVec.ofInt_natCast 64 _
  rw [h1, h2]
  have h3 : (BitVec.ofNat 64 a ||| BitVec.ofNat 64 (256 * b)).toNat = a + 256 * b := by
    rw [BitVec.toNat_or, BitVec.toNat_ofNat, BitVec.toNat_ofNat, Nat.mod_eq_of_lt (by omega), Nat.mod_eq_of_lt (by omega)]
    rw [Nat.or_comm, show 256 * b = 2 ^ 8 * b from rfl, ← Nat.two_pow_add_eq_or_of_lt (by omega), Nat.add_comm]
  show IntKind.i64.wrap (((BitVec.ofNat 64 a ||| BitVec.ofNat 64 (256 * b)).toNat : Nat) : Int) = _
  rw [h3, wrap_i64 (by omega) (by omega)]
def sizeB (ts : List Bs) : Nat := (ts.map fun t => 2 + t.length).sum
theorem sizeB_app (ts us : List Bs) : sizeB (ts ++ us) = sizeB ts + sizeB us := by simp [sizeB]
theorem sizeB_take : ∀ (ts : List Bs) (j : Nat), sizeB (ts.take j) ≤ sizeB ts
  | [], j => by simp
  | t :: ts, 0 => by simp [sizeB]
  | t :: ts, j + 1 => by
    have := sizeB_take ts j
    simp only [List.take_succ_cons, sizeB, List.map_cons, List.sum_cons] at *
    omega
theorem sizeB_le : ∀ {ts : List Bs}, (∀ t ∈ ts, t.length ≤ 65535) → sizeB ts ≤ ts.length * 65537
  | [], _ => Nat.zero_le _
  | t :: ts, h => by
    have h1 := h t (by simp)
    have h2 := sizeB_le (ts := ts) fun x hx => h x (by simp [hx])
    simp only [sizeB, List.map_cons, List.sum_cons, List.length_cons] at *
    omega
theorem flatB_size (ts : List Bs) : (flatB ts).length = sizeB ts := flatB_len ts
theorem wrapU8 (n : Nat) : IntKind.wrap .u8 ((n : Nat) : Int) = ((n % 256 : Nat) : Int) := wrapN_u8 n
theorem rows_take {ts : List Bs} {j : Nat} (hj : j < ts.length) : ts.take (j + 1) = ts.take j ++ [ts[j]] := List.take_succ_eq_append_getElem hj
theorem natC_two (a b : Nat) : natC .u8 [a, b] = [.int .u8 (a : Int), .int .u8 (b : Int)] := rfl
section
variable {K : Xs} {h : AH}
theorem joinSpec (hk : K 17 = none) {p : Option Addr} {n c : Nat} {ts : List Bs} (T : Rows h p n ts) (hl : ts.length ≤ 65535) (ht : ∀ t ∈ ts, t.length ≤ 65535) :
    Wf Tryz.prog K 17 [.slice p n c] h fun v h' => (∃ b, v = .tuple #[.slice (some ⟨b, 0, none⟩) (joinB ts).length (2 + sizeB ts), .int .i64 0] ∧ h.next ≤ b ∧ b < h'.next ∧ Shows h' (some ⟨b, 0, none⟩) (joinB ts).length 1 (natC .u8 (joinB ts))) ∧ Old h h' := by
  obtain rfl : n = ts.length := T.1
  have sz := sizeB_le ht
  refine vc_field_Join hk _ _ _ h _ ⟨fun z => absurd z (by omega), fun _ => ⟨fun i4 i5 k g => ∃ j : Nat, i5 = j ∧ i4 = ((2 + sizeB (ts.take j) : Nat) : Int) ∧ j ≤ ts.length ∧ ts.length - j = k ∧ h = g, ⟨_, 0, rfl, rfl, Nat.zero_le _, rfl, rfl⟩, ?_⟩⟩
  rintro k g i4 i5 ⟨j, rfl, rfl, hj, rfl, rfl⟩
  have sj := sizeB_take ts j
  refine ⟨fun z => ?_, fun z => ?_⟩
  · have hj' : j < ts.length := by omega
    obtain ⟨b, off, rfl, _, p', n', c', hld, tx⟩ := T.at hj'
    have hlen := ht _ (List.getElem_mem hj')
    have e1 : sizeB (ts.take (j + 1)) = sizeB (ts.take j) + (2 + ts[j].length) := by rw [rows_take hj', sizeB_app]; simp [sizeB]
    have sj1 := sizeB_take ts (j + 1)
    have hn := tx.2.1
    refine derefP_at ⟨by omega, z, p', n', c', by rw [Int.toNat_natCast, Nat.mul_one]; exact hld, fun y => absurd y (by omega), fun _ i11 e11 i12 e12 i13 e13 => ?_⟩
    have e11 := i64w e11 (by omega) (by omega)
    have e12 := i64w e12 (by omega) (by omega)
    have e13 := i64w e13 (by omega) (by omega)
    exact ⟨_, by omega, j + 1, by rw [e13]; rfl, by rw [e12, e11, e1, hn]; omega, hj', rfl, rfl⟩
  · obtain rfl : j = ts.length := by omega
    rw [List.take_length] at *
    refine ⟨⟨by omega, by omega, by omega, by omega⟩, fun g14 e14 i15 e15 => ⟨_, shr8_i64 _, fun i17 e17 g18 e18 => ?_⟩⟩
    rw [wrapU8] at e15 e17
    subst e15 e17
    have o14 := old_of_alloc e14
    have hg0 : GrowC h.next g14 5 1 h.next 0 (2 + sizeB ts) [] := GrowC.make e14 (by rw [Int.toNat_natCast]; simp) (by simp only [openCap]; omega)
    have e18' : g18 = g14.alloc (.cells (natC .u8 (byB 2 ts.length)) 5 false) := by rw [byB2, natC_two]; exact e18
    obtain ⟨g22, k22, G22, n22, f22⟩ := hg0.push eU8 e18' (m := 2) (by rw [natC_len, byB_len]) (by decide) (by omega)
    have n14 := next_of_alloc e14
    refine ⟨some ⟨h.next, 0, none⟩, 0 + 2, 2 + sizeB ts, g22, by rw [Int.toNat_natCast]; exact k22, fun p27 n28 c29 i30 k g => ∃ j : Nat, i30 = j ∧ j ≤ ts.length ∧ ts.length - j = k ∧ p27 = some ⟨h.next, 0, none⟩ ∧ c29 = 2 + sizeB ts ∧ Old h g ∧ GrowC h.next g 5 1 h.next n28 (2 + sizeB ts) (natC .u8 (byB 2 ts.length ++ flatB (ts.take j))),
      ⟨_, 0, rfl, Nat.zero_le _, rfl, rfl, by omega, ⟨by omega, fun b hb => ?_⟩, by simpa [flatB] using G22⟩, ?_⟩
    · rw [f22 b (by omega) (by omega), o14.2 b hb]
    rintro k24 g25 p27 n28 c29 i30 ⟨j, rfl, hj, rfl, rfl, rfl, o25, G25⟩
    refine ⟨fun z => ?_, fun z => ?_⟩
    · have hj' : j < ts.length := by omega
      obtain ⟨b, off, rfl, _, p', n', c', hld, tx⟩ := (T.old o25).at hj'
      have hlen := ht _ (List.getElem_mem hj')
      have hn := tx.2.1
      have e1 : flatB (ts.take (j + 1)) = flatB (ts.take j) ++ (byB 2 ts[j].length ++ ts[j]) := by rw [rows_take hj', flatB_app, flatB_one]
      have s1 : sizeB (ts.take (j + 1)) = sizeB (ts.take j) + (2 + ts[j].length) := by rw [rows_take hj', sizeB_app]; simp [sizeB]
      have sj1 := sizeB_take ts (j + 1)
      have hn28 : n28 = 2 + sizeB (ts.take j) := by have := G25.1; rw [natC_len, List.length_append, byB_len, flatB_size] at this; omega
      refine derefP_at ⟨by omega, z, p', n', c', by rw [Int.toNat_natCast, Nat.mul_one]; exact hld, fun i36 e36 => ⟨_, shr8_i64 _, fun i38 e38 g39 e39 => ?_⟩⟩
      rw [wrapU8] at e36 e38
      subst e36 e38
      have e39' : g39 = g25.alloc (.cells (natC .u8 (byB 2 n')) 5 false) := by rw [byB2, natC_two]; exact e39
      obtain ⟨g43, k43, G43, n43, f43⟩ := G25.push eU8 e39' (m := 2) (by rw [natC_len, byB_len]) (by decide) (by omega)
      have o43 : Old h g43 := ⟨by have := o25.1; omega, fun b hb => by rw [f43 b (by have := o25.1; omega) (by omega), o25.2 b hb]⟩
      have tx43 : Text g43 p' n' ts[j] := by
        obtain ⟨hj2, p2, n2, c2, h2, t2⟩ : ∃ (_ : j < ts.length), ∃ p2 n2 c2, ld1 h b (off + j) = some (.slice p2 n2 c2) ∧ Text h p2 n2 ts[j] := by
          obtain ⟨b', off', hp', hj2, p2, n2, c2, h2, t2⟩ := T.at hj'
          cases hp'
          exact ⟨hj2, p2, n2, c2, h2, t2⟩
        obtain ⟨b', off', hp', hj3, p3, n3, c3, h3, t3⟩ := T.at hj'
        cases hp'
        have hb : b < h.next := by
          rcases T.2 with ⟨cells, S, -⟩
          rcases S.2 with q | ⟨b5, off5, al, e5, ro, hp5, hb5, -⟩
          · omega
          · cases hp5; exact hb5
        have : ld1 g25 b (off + j) = ld1 h b (off + j) := by unfold ld1; rw [o25.2 b hb]
        rw [hld, h3] at this
        cases this
        exact t3.old o43
      obtain ⟨g47, k47, G47, n47⟩ := G43.appendX eU8 (x := .slice p' n' c') (m := n') rfl (tx43.2.2.2.1.firstC tx43.1) tx43.2.2.2.1.1 (by omega)
      refine ⟨_, _, _, g43, k43, _, _, _, g47, k47, fun i48 e48 => ?_⟩
      have e48 := i64w e48 (by omega) (by omega)
      refine ⟨_, by omega, j + 1, by rw [e48]; rfl, hj', rfl, rfl, rfl, o43.near n47 (Nat.le_refl _), ?_⟩
      rw [e1, ← hn, ← List.append_assoc, ← List.append_assoc, natC_app, natC_app]
      exact G47
    · obtain rfl : j = ts.length := by omega
      rw [List.take_length] at G25
      have hj2 : (joinB ts).length = n28 := by have := G25.1; rw [natC_len] at this; simp only [joinB]; omega
      rw [← hj2] at G25 ⊢
      exact ⟨⟨_, rfl, Nat.le_refl _, G25.2.2.1, G25.shows⟩, o25⟩
end
end Go.Am
