/-
  THERE AND BACK: the law of a text that is saved, as the abstract machine runs it.
-/
import Derived.Test.YteblpmcekhcgiadCText
import Derived.Test.YteblpmcekhcgiadCWhole
set_option linter.unusedVariables false
set_option linter.unusedSimpArgs false
set_option maxRecDepth 100000
namespace Go.Am
open Go.Proofs
theorem bytes_nat : ∀ data : List Nat, bytesOfCells (natC .u8 data) = some (data.map UInt8.ofNat)
  | [] => rfl
  | x :: xs => by
    show (bytesOfCells (natC .u8 xs)).map (UInt8.ofNat ((x : Nat) : Int).toNat :: ·) = _
    rw [bytes_nat xs, Int.toNat_natCast]
    rfl
theorem convS {h : AH} {p : Option Addr} {n c : Nat} {data : List Nat} (S : Shows h p n 1 (natC .u8 data)) (hp : p = none ∨ ∃ b off, p = some ⟨b, off, none⟩) : aConvert Try.prog h 22 9 (.slice p n c) = some (.string ⟨(data.map UInt8.ofNat).toArray⟩, h) := by
  unfold aConvert
  rw [Try.underlying22, Try.underlying9]
  simp only [Try.underlying5, S.firstC hp, bytes_nat]
theorem loadQ_det {nw : List (List Nat)} {root : Tr3} {n : Nat} {t t' : List Nat} {all all' : List Tr3} (a : loadQ nw root n t all) (b : loadQ nw root n t' all') : t = t' ∧ all = all' := by
  obtain ⟨lv, h1, al, h2, h3, h4⟩ := a
  obtain ⟨lv', k1, al', k2, k3, k4⟩ := b
  rw [h1] at k1
  cases k1
  rw [h2] at k2
  cases k2
  exact ⟨h4.trans k4.symm, rfl⟩
theorem loadQ_len {nw : List (List Nat)} {root : Tr3} {n : Nat} {t : List Nat} {all : List Tr3} {as' : List Nat} (h : (all.map (·.1)).Perm as') : all.length = as'.length := by
  have := h.length_eq
  rw [List.length_map] at this
  exact this
theorem new_1024 : (newM 1024).count 1 = 1020 := by kernel_rfl
theorem new_256 : (newM 256).count 1 = 252 := by kernel_rfl
theorem eBytesB : ElemOk Try.prog 22 5 1 1 := ElemOk_of (by kernel_rfl)
section
variable {K : Xs}
/-- The functions that these laws reach beyond those of loading and saving. -/
structure KBack (K : Xs) : Prop where
  kl : KLoad K
  ks : KSave K
  k1 : K 8 = none
  k2 : K 19 = none
  k3 : K 20 = none
  k4 : K 18 = none
  pMap : K 9 = none
  mMany : K 10 = none
  mCount : K 21 = none
  mAlloc : K 22 = none
  mIs : K 32 = none
  mSet : K 31 = none
/-- What there is when a text was saved. -/
structure Saved (h : AH) (N : Nat) (data : List Nat) (p : Nat) (p13 : Option Addr) (n14 : Nat) (cell : Nat) (g : AH) (root : Tr3) (D : List Tr3) (as' : List Nat) (F : List Nat) (d m : Nat) (W : Nat) (nw : List (List Nat)) (M : List Nat) : Prop where
  po : PO g p F d m W nw M 1 0
  w : W ≤ 600
  old : Old h g
  own : ∀ c ∈ F, h.next ≤ c
  at' : Shows g p13 n14 1 (natC .i64 as')
  atF : ∀ a, p13 = some a → a.block ∉ F
  atN : as'.length = needL (data.length : Nat)
  ptr : Mine g F cell [.int .i64 (root.1 : Nat), .int .u64 (root.2.1 : Nat), .int .u32 (root.2.2 : Nat)] 36
  qok : QOk root
  ne : root ≠ hole
  load : loadQ nw root data.length data (root :: D)
  perm : ((root :: D).map (·.1)).Perm as'
  last : as'.getLast? = some root.1
  all : ∀ q ∈ root :: D, QOk q ∧ q ≠ hole
  nd : as'.Nodup
  lt : ∀ a ∈ as', 4 ≤ a ∧ a < N
  len : nw.length = N
theorem saved_then (kk : KBack K) {N : Nat} (hN : N ≤ 1024) (hcnt : (newM N).count 1 + 4 = N) {h : AH} {pa0 : Option Addr} {na0 ca0 : Nat} {data : List Nat} (T : Text h pa0 na0 data) (hn1 : 1 ≤ na0) (hn2 : na0 ≤ 65535) (hroom : needL (na0 : Nat) + 4 ≤ N)
    {X : Option Addr → Option Addr → Nat → Int → AH → AH → Int → Int → Int → Prop}
    (H : ∀ (p : Nat) (p13 : Option Addr) (n14 : Nat) (g23 g29 : AH) (root : Tr3) (D : List Tr3) (as' F : List Nat) (d m W : Nat) (nw : List (List Nat)) (M : List Nat), Saved h N data p p13 n14 g23.next g29 root D as' F d m W nw M → X (some ⟨p, 0, none⟩) p13 n14 0 g23 g29 (root.1 : Nat) (root.2.1 : Nat) (root.2.2 : Nat)) :
    Wf Try.prog K 8 [.int .i64 (N : Nat)] h fun r5 h6 => ∃ p7 : Option Addr, r5 = .pointer p7 ∧
      Wf Try.prog K 9 [.pointer p7] h6 fun r8 h9 => ∃ p10 : Option Addr, r8 = .pointer p10 ∧
      Wf Try.prog K 10 [.pointer p10, .int .i64 (needL (na0 : Nat) : Nat)] h9 fun r11 h12 => ∃ (p13 : Option Addr) (n14 c15 : Nat), ∃ i16 : Int, r11 = .tuple #[.slice p13 n14 c15, .int .i64 i16] ∧
      ∀ h17 : AH, h17 = h12.alloc (.cells ([] : List Value) 5 false) → ∃ (p18 : Option Addr) (n19 c20 : Nat) (h21 : AH), aBuiltin Try.prog h17 .append #[22, 22] [.slice (some ⟨h12.next, 0, none⟩) 0 0, .slice pa0 na0 ca0] = some (.slice p18 n19 c20, h21) ∧
      Wf Try.prog K 11 [.pointer p7, .slice p18 n19 c20, .slice p13 n14 c15] h21 fun r22 h23 => ∃ i24 : Int, ∃ i25 : Int, ∃ i26 : Int, ∃ i27 : Int, r22 = .tuple #[.agg #[.int .i64 i24, .int .u64 i25, .int .u32 i26], .int .i64 i27] ∧
      ∀ h28 : AH, h28 = h23.alloc (.cells ([.int .i64 0, .int .u64 0, .int .u32 0] : List Value) 36 false) → List.length ([.int .i64 i24, .int .u64 i25, .int .u32 i26] : List Value) = 3 ∧ ∃ h29 : AH, stN h28 h23.next 0 [.int .i64 i24, .int .u64 i25, .int .u32 i26] = some h29 ∧
      ∃ i30 : Int, ∃ i31 : Int, ∃ i32 : Int, ldN h29 h23.next 0 3 = some [.int .i64 i30, .int .u64 i31, .int .u32 i32] ∧ X p7 p13 n14 i27 h23 h29 i30 i31 i32 := by
  obtain ⟨tx1, tx2, tx3, tx4, tx5⟩ := T
  refine (made kk.k1 kk.k2 kk.k3 kk.k4 kk.mSet N hN h).mono ?_
  rintro _ g6 ⟨p, F, d, m, Fd, rfl, P6, o6, hF6⟩
  refine ⟨_, rfl, (pileMap kk.pMap P6).mono ?_⟩
  rintro _ _ ⟨rfl, rfl⟩
  have B6 : PO g6 p F d m 0 (List.replicate N (List.replicate 128 0)) (newM N) 1 0 := ⟨Fd, P6⟩
  have hq := needL_le hn1 hn2
  refine ⟨_, rfl, (poolMany kk.mMany kk.mCount kk.mAlloc kk.mIs kk.mSet B6 (by rw [List.length_replicate]; exact hN) (n := needL (na0 : Nat)) (by omega) (by omega)).mono ?_⟩
  rintro _ g12 ⟨p13, c15, A, rfl, G12, hA, hnd, hall, B12, f12⟩
  obtain ⟨ab, rfl⟩ := G12.some (by omega)
  refine ⟨_, _, _, _, rfl, fun g17 e17 => ?_⟩
  have o17 := old_of_alloc e17
  have n17 := next_of_alloc e17
  obtain ⟨o12, hF12⟩ := f12.old o6 hF6
  have hgl : Grow g12.next g17 5 1 (some ⟨g12.next, 0, none⟩) 0 0 [] := Grow.lit e17 rfl (Nat.le_refl _)
  have tx17 := tx4.old (o12.trans o17)
  obtain ⟨p18, c20, g21, k21, G21, hob, -, -⟩ := hgl.append eBytesB o17.1 (x := .slice pa0 na0 ca0) (m := na0) rfl (tx17.firstC tx1) tx17.1 (by simp only [reachBytes, roomMax] at *; omega) (by simp only [reachBytes] at *; omega) ⟨_, eBytesB.1⟩
  rw [Nat.zero_add] at k21 G21
  refine ⟨p18, na0, c20, g21, k21, ?_⟩
  obtain ⟨tb, rfl⟩ := G21.some (by omega)
  have o21 : Old g12 g21 := (o17.toB (Nat.le_refl _)).trans hob
  have B21 := B12.old o21
  have hab := G12.block rfl
  have htb := G21.block rfl
  simp only at hab htb
  have hF12' := B12.lt
  have G12' := G12.old o21
  have abF : ab ∉ F := fun z => absurd (P6.mem_lt _ z) (by omega)
  refine (blobSave kk.ks B21 (by omega) (by unfold StOk; omega) hn1 hn2 G21.shows (G21.cutOk (by unfold openCap; omega)) (fun z => absurd (hF12' _ z) (by omega)) htb.2 tx5 G12'.shows (G12'.cutOk (by unfold openCap; omega)) abF (by have := o21.1; omega) hA (fun a ha => (hall a ha).1) (fun a ha => ⟨(hall a ha).2.2, (hall a ha).2.1⟩) (by rw [List.length_replicate]; exact hN) hnd).mono ?_
  rintro _ g23 ⟨root, D, nw', W', F', rfl, r1, r2, r3, r4, r5, r6, r7, r8, B23, f23⟩
  refine ⟨_, _, _, _, rfl, fun g28 e28 => ?_⟩
  obtain ⟨g29, k29, n29, o29, v29⟩ := put_new e28 (vs := [.int .i64 (root.1 : Nat), .int .u64 (root.2.1 : Nat), .int .u32 (root.2.2 : Nat)]) rfl
  have w29 := v29 F' B23.lt
  refine ⟨rfl, g29, k29, _, _, _, w29.ld rfl, ?_⟩
  obtain ⟨o23, hF23⟩ := f23.old (o12.trans o21) hF12
  have Sat := (G12'.shows.fr f23 (fun a e => by cases e; exact abF)).old o29
  refine H p _ _ g23 g29 root D A F' d m W' nw' _ ⟨B23.old o29, by omega, o23.trans o29, hF23, Sat, fun a e => ?_, by rw [hA, tx2], w29, r1, r2, by rw [← tx2]; exact r3, r4, r5, r6, hnd, fun a ha => ⟨(hall a ha).2.2, by have := (hall a ha).2.1; rw [List.length_replicate] at this; exact this⟩, by rw [r7, List.length_replicate]⟩
  cases e
  exact fun z => (f23.2.2 _ z).elim abF (fun y => by have := o21.1; simp only at y; omega)
/-- Which sectors some pointers point to. -/
def markB (l : List Nat) : List Value := (List.range 1024).map fun x => Value.bool (decide (x ∈ l))
theorem markB_len (l : List Nat) : (markB l).length = 1024 := by simp [markB]
theorem markB_nil : markB [] = List.replicate 1024 (.bool false) := by
  apply List.ext_getElem?
  intro i
  by_cases hi : i < 1024
  · rw [List.getElem?_replicate, if_pos hi]; simp [markB, hi]
  · rw [List.getElem?_eq_none (by rw [markB_len]; omega), List.getElem?_eq_none (by simp; omega)]
theorem markB_get {l : List Nat} {x : Nat} (hx : x < 1024) : (markB l)[x]? = some (.bool (decide (x ∈ l))) := by simp [markB, hx]
theorem markB_set {l : List Nat} {x : Nat} (hx : x < 1024) : (markB l).set x (.bool true) = markB (l ++ [x]) := by
  apply List.ext_getElem?
  intro j
  rw [List.getElem?_set, markB_len]
  by_cases hj : j < 1024
  · rw [markB_get hj, markB_get hj]
    by_cases hxj : x = j
    · subst hxj
      rw [if_pos rfl, if_pos hj]; simp
    · rw [if_neg hxj]
      have : (j ∈ l ++ [x]) ↔ j ∈ l := by
        rw [List.mem_append, List.mem_singleton]
        exact ⟨fun z => z.elim id (fun y => absurd y.symm hxj), .inl⟩
      simp only [this]
  · rw [if_neg (by omega), List.getElem?_eq_none (by rw [markB_len]; omega), List.getElem?_eq_none (by rw [markB_len]; omega)]
theorem zMark : aBuild Try.prog 42 #[] = some (.agg (List.replicate 1024 (Value.bool false)).toArray) := by kernel_rfl
theorem backTrue (hk : K 3 = none) (ha : K 6 = some (.sum xTrue)) (kk : KBack K) {h : AH} {pa : Option Addr} {na ca : Nat} {data : List Nat} (T : Text h pa na data) :
    Wf Try.prog K 3 [.slice pa na ca] h fun v _ => v = .bool true := by
  obtain ⟨tx1, tx2, tx3, tx4, tx5⟩ := T
  refine vc_aquiferlaw12_BlobBack hk _ _ _ h _ (Wf_sum ha (v := .bool true) (h' := h) rfl (Nat.le_refl _) (.inl ⟨rfl, (needSpec kk.ks.bNeed kk.ks.bLevels kk.ks.bUp (na : Nat) h).mono ?_⟩))
  rintro _ g3 ⟨rfl, o3⟩
  have hneed0 : needL (na : Nat) = 0 → ¬ (1 ≤ na ∧ na ≤ 65535) := fun z q => by have := needL_le q.1 q.2; omega
  have hneed1 : ¬ (1 ≤ na ∧ na ≤ 65535) → needL (na : Nat) = 0 := fun z => by
    unfold needL levelsL
    rw [if_pos (by omega)]
    rfl
  refine ⟨_, rfl, fun z => ⟨fun y => ⟨fun x => absurd x (by omega), fun _ => ⟨fun _ => rfl, fun x => absurd z x⟩⟩, fun y => ⟨fun x => ⟨fun w => absurd w (by omega), fun _ => ⟨fun _ => rfl, fun w => absurd z w⟩⟩, fun x => absurd ⟨by omega, by omega⟩ (hneed0 (by omega))⟩⟩,
    fun z => ⟨fun y => absurd (hneed1 (by omega)) (by omega), fun y => ⟨fun x => absurd (hneed1 (by omega)) (by omega), fun x => ?_⟩⟩⟩
  obtain ⟨q1, q2, q3, q4⟩ := needL_le (n := na) (by omega) (by omega)
  refine ⟨fun w => absurd w (by omega), fun _ => ⟨fun w => absurd w z, fun _ => ?_⟩⟩
  have T3 : Text g3 pa na data := ⟨tx1, tx2, tx3, tx4.old o3, tx5⟩
  refine saved_then kk (N := 1024) (by decide) (by rw [new_1024]) T3 (by omega) (by omega) (by omega) ?_
  intro p p13 n14 g23 g29 root D as' F d m W nw M s
  refine (blobLoad kk.kl s.po s.qok s.ne (n := na) (by omega) (by omega)).mono ?_
  rintro _ g34 ⟨hv, B34, f34⟩
  have hload : loadQ nw root na data (root :: D) := by rw [tx2]; exact s.load
  have hneed : as'.length = needL (na : Nat) := by rw [tx2]; exact s.atN
  have hperm := s.perm
  have hlen := loadQ_len (nw := nw) (root := root) (n := na) (t := data) hperm
  have hml : ((root :: D).map (·.1)).Nodup := hperm.nodup_iff.2 s.nd
  have hmlt : ∀ q ∈ root :: D, q.1 < 1024 := fun q hq => (s.lt _ (hperm.subset (List.mem_map_of_mem hq))).2
  rcases hv with ⟨t, all, b, pl, nl, cl, hq, rfl, St, hb, Gl⟩ | ⟨hq, -⟩
  rotate_left
  · exact absurd ⟨_, _, hload⟩ hq
  obtain ⟨et, ea⟩ := loadQ_det hq hload
  rw [et] at St
  rw [ea] at Gl
  generalize hAll : root :: D = AL at Gl hperm hlen hml hmlt
  have hnl : nl = AL.length := by have := Gl.1; rw [ptr3_len] at this; omega
  obtain ⟨o34, hF34⟩ := f34.old s.old s.own
  have w34 := s.ptr.fr f34
  have at34 := s.at'.fr f34 s.atF
  have hn14 : n14 = as'.length := by have := s.at'.1; rw [natC_len] at this; omega
  have hla := s.last
  rw [List.getLast?_eq_getElem?] at hla
  refine ⟨_, _, _, _, _, _, _, rfl, fun _ => ⟨fun _ => ⟨_, convS St (.inr ⟨_, _, rfl⟩), _, convS (T3.2.2.2.1.old o34) tx1, fun _ => ⟨fun _ => ⟨_, ld1_at w34.1 rfl, fun i45 e45 => ?_⟩, fun y => absurd (by omega) y⟩, fun y => absurd rfl y⟩, fun y => absurd rfl y⟩, fun y => absurd rfl y⟩
  have e45 := i64w e45 (by omega) (by omega)
  obtain ⟨b46, o47, rfl, hld⟩ := at34.get (i := as'.length - 1) (by omega)
  have hlt : as'.length - 1 < as'.length := by omega
  rw [natC_get hlt] at hld
  have hlast : as'[as'.length - 1] = root.1 := by
    rw [List.getElem?_eq_getElem hlt] at hla
    simpa using hla
  rw [hlast] at hld
  have ei : Int.toNat i45 = as'.length - 1 := by omega
  refine derefP_at ⟨by omega, by omega, _, by rw [ei, Nat.mul_one]; exact hld, fun _ => ⟨_, zMark, fun g50 e50 => ⟨by simp, _, stN_all (get_of_alloc e50) (by simp), ?_⟩⟩, fun y => absurd rfl y⟩
  have o50 := old_of_alloc e50
  have n50 := next_of_alloc e50
  have nr51 := near_set g34.next g50 (.cells (List.replicate 1024 (.bool false)) 42 false)
  have c51 : (g50.set g34.next (.cells (List.replicate 1024 (.bool false)) 42 false)).get g34.next = some (.cells (markB []) 42 false) := by rw [markB_nil]; exact get_set_self _ _ _
  generalize g50.set g34.next (.cells (List.replicate 1024 (.bool false)) 42 false) = g51 at nr51 c51
  have o51 : Old g34 g51 := ⟨by rw [nr51.1]; omega, fun c hc => by rw [nr51.2 c (by omega), o50.2 c hc]⟩
  have l51 : g34.next < g51.next := by rw [nr51.1]; omega
  refine ⟨fun i k g => ∃ u : Nat, i = u ∧ u ≤ nl ∧ nl - u = k ∧ g51.next ≤ g.next ∧ (∀ c, c < g51.next → c ≠ g34.next → g.get c = g51.get c) ∧ g.get g34.next = some (.cells (markB ((AL.map (·.1)).take u)) 42 false), ⟨_, 0, rfl, Nat.zero_le _, rfl, Nat.le_refl _, fun _ _ _ => rfl, by rw [List.take_zero]; exact c51⟩, ?_⟩
  rintro k53 g54 i56 ⟨u, rfl, hu, rfl, l54, k54, c54⟩
  refine ⟨fun y => ?_, fun y => ?_⟩
  · have huA : u < AL.length := by omega
    obtain ⟨b57, o58, rfl, hldq, -⟩ := ((Gl.shows.old o51).keep l54 fun a e _ => k54 _ (by have := (Gl.block e).2; omega) (by have := (Gl.block e).2; omega)).getN (i := u) (by omega)
    rw [ptr3_get AL u huA] at hldq
    have hq1 := hmlt _ (List.getElem_mem huA)
    have hmu : (AL.map (·.1)).length = AL.length := List.length_map ..
    have hmg : (AL.map (·.1))[u]'(by omega) = AL[u].1 := List.getElem_map ..
    have hnin : AL[u].1 ∉ (AL.map (·.1)).take u := by
      rw [← hmg]
      intro z
      have e1 := List.take_append_drop u (AL.map (·.1))
      rw [List.drop_eq_getElem_cons (by omega)] at e1
      rw [← e1, List.nodup_append] at hml
      exact hml.2.2 _ z _ List.mem_cons_self rfl
    have htk : (AL.map (·.1)).take (u + 1) = (AL.map (·.1)).take u ++ [AL[u].1] := by rw [← hmg]; exact List.take_succ_eq_append_getElem (by omega)
    generalize AL[u] = q at hldq hq1 hnin htk
    refine derefP_at ⟨by omega, y, _, _, _, by rw [Int.toNat_natCast]; exact hldq, fun g62 e62 => ?_⟩
    obtain ⟨g63, k63, n63, o63, v63⟩ := put_new e62 (vs := [.int .i64 (q.1 : Nat), .int .u64 (q.2.1 : Nat), .int .u32 (q.2.2 : Nat)]) rfl
    have w63 := v63 [] (fun c hc => by cases hc)
    have c63 := (o63.2 g34.next (by omega)).trans c54
    have nr66 := near_set g34.next g63 (.cells ((markB ((AL.map (·.1)).take u)).set q.1 (.bool true)) 42 false)
    refine ⟨rfl, g63, k63, _, ld1_at w63.1 rfl, by omega, by omega, .inr ⟨ld1_at c63 (by rw [Int.toNat_natCast, Nat.mul_one, Nat.zero_add, markB_get hq1, decide_eq_false hnin]), _, ld1_at w63.1 rfl, by omega, by omega, g63.set g34.next (.cells ((markB ((AL.map (·.1)).take u)).set q.1 (.bool true)) 42 false), by rw [Int.toNat_natCast, Nat.mul_one, Nat.zero_add]; exact st1_of c63 (by rw [markB_len]; exact hq1), fun i67 e67 => ?_⟩⟩
    have e67 := i64w e67 (by omega) (by omega)
    refine ⟨nl - (u + 1), by omega, u + 1, by omega, by omega, rfl, by rw [nr66.1]; have := o63.1; omega, fun c hc hne => by rw [nr66.2 c hne, o63.2 c (by omega), k54 c hc hne], ?_⟩
    rw [get_set_self, htk, markB_set hq1]
  · obtain rfl : u = nl := by omega
    rw [List.take_of_length_le (by rw [List.length_map]; omega)] at c54
    refine ⟨fun i k g => ∃ v : Nat, i = v ∧ v ≤ as'.length ∧ as'.length - v = k ∧ g54 = g, ⟨_, 0, rfl, Nat.zero_le _, rfl, rfl⟩, ?_⟩
    rintro k69 _ i72 ⟨v, rfl, hv, rfl, rfl⟩
    refine ⟨fun x => ?_, fun _ => rfl⟩
    have hva : v < as'.length := by omega
    have at54 := (at34.old o51).keep l54 fun a e hl => k54 _ hl (by
      have := at34.2.resolve_left (by omega)
      obtain ⟨b', off', al, ty, ro, e', hlt', -⟩ := this
      rw [e'] at e
      cases e
      exact Nat.ne_of_lt hlt')
    obtain ⟨b73, o74, e73, hld2⟩ := at54.get (i := v) (by omega)
    cases e73
    rw [natC_get hva] at hld2
    have hmem : as'[v] ∈ AL.map (·.1) := hperm.symm.subset (List.getElem_mem hva)
    have hl10 := (s.lt _ (List.getElem_mem hva)).2
    refine derefP_at ⟨by omega, x, _, by rw [Int.toNat_natCast, Nat.mul_one]; exact hld2, by omega, by omega, .inl ⟨ld1_at c54 (by rw [Int.toNat_natCast, Nat.mul_one, Nat.zero_add, markB_get hl10, decide_eq_true hmem]), fun i76 e76 => ?_⟩⟩
    have e76 := i64w e76 (by omega) (by omega)
    exact ⟨as'.length - (v + 1), by omega, v + 1, by omega, by omega, rfl, rfl⟩
theorem rdv_bytes {h : AH} {g : Nat} {a : Value} (r : RdV Try.prog h g 22 a) : Rd Try.prog h g 22 [a] := by
  unfold RdV at r
  rw [Try.underlying22] at r
  exact r
theorem back_args {h : AH} {vs : List Value} (r : RdA Try.prog h 8 [22] vs) : ∃ pa na ca data, vs = [.slice pa na ca] ∧ Text h pa na data := by
  obtain ⟨a, rfl, r1⟩ := rda1 r
  obtain ⟨pa, na, ca, data, rfl, T⟩ := rd_text (g := 6) (rdv_bytes r1)
  exact ⟨pa, na, ca, data, rfl, T⟩
end
end Go.Am
