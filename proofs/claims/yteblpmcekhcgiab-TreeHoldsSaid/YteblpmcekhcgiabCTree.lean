/-
  TREES: nodes that are loaded and saved, the way to a block, what is replaced.
-/
import Derived.Test.YteblpmcekhcgiabCNode
import Derived.Test.YteblpmcekhcgiabVTree
set_option linter.unusedVariables false
set_option linter.unusedSimpArgs false
set_option maxRecDepth 100000
namespace Go.Am
open Go.Proofs
abbrev hole : Tr3 := (0, 0, 0)
/-- Bytes lie where a pointer says. -/
def Lies (nw : List (List Nat)) (M : List Nat) (q : Tr3) (s : List Nat) : Prop :=
  (q = hole ∧ s = List.replicate 128 0) ∨ (q ≠ hole ∧ QOk q ∧ q.2.2 = crcOf s ∧ nw[q.1]? = some s ∧ M[q.1]? = some 2 ∧ Sec s)
/-- What is taken stays as it is. -/
def Stay (nw : List (List Nat)) (M : List Nat) (nw' : List (List Nat)) (M' : List Nat) : Prop := ∀ s : Nat, M[s]? = some 2 → nw'[s]? = nw[s]? ∧ M'[s]? = some 2
theorem Stay.refl (nw : List (List Nat)) (M : List Nat) : Stay nw M nw M := fun s h => ⟨rfl, h⟩
theorem Stay.trans {n1 n2 n3 : List (List Nat)} {M1 M2 M3 : List Nat} (a : Stay n1 M1 n2 M2) (b : Stay n2 M2 n3 M3) : Stay n1 M1 n3 M3 := fun s h => ⟨(b s (a s h).2).1.trans (a s h).1, (b s (a s h).2).2⟩
theorem Lies.ext {nw nw' : List (List Nat)} {M M' : List Nat} {q : Tr3} {s : List Nat} (l : Lies nw M q s) (x : Stay nw M nw' M') : Lies nw' M' q s := by
  rcases l with l | ⟨h1, h2, h3, h4, h5, h6⟩
  · exact .inl l
  · exact .inr ⟨h1, h2, h3, (x _ h5).1.trans h4, (x _ h5).2, h6⟩
theorem Lies.ok {nw : List (List Nat)} {M : List Nat} {q : Tr3} {s : List Nat} (l : Lies nw M q s) : QOk q := by
  rcases l with ⟨rfl, -⟩ | l
  · exact hole_ok
  · exact l.2.1
/-- Bytes are put. -/
def Puts (nw : List (List Nat)) (M : List Nat) (st : Nat) (q : Tr3) (s : List Nat) (nw' : List (List Nat)) (M' : List Nat) : Prop := ∃ i, M[i]? = some 1 ∧ 4 ≤ i ∧ i < nw.length ∧ q = (i, st, crcOf s) ∧ nw' = nw.set i s ∧ M' = M.set i 2
theorem Puts.ext {nw nw' : List (List Nat)} {M M' : List Nat} {st : Nat} {q : Tr3} {s : List Nat} (k : Puts nw M st q s nw' M') : Stay nw M nw' M' := by
  obtain ⟨i, h1, h4, h2, rfl, rfl, rfl⟩ := k
  intro s h
  have hne : i ≠ s := fun e => by rw [e, h] at h1; cases h1
  exact ⟨by rw [List.getElem?_set, if_neg hne], by rw [List.getElem?_set, if_neg hne]; exact h⟩
def StOk (st : Nat) : Prop := 1 ≤ st ∧ st ≤ 281474976710655
theorem Puts.lies {nw nw' : List (List Nat)} {M M' : List Nat} {st : Nat} {q : Tr3} {s : List Nat} (k : Puts nw M st q s nw' M') (hn : nw.length ≤ 1024) (hs : Sec s) (hst : StOk st) : Lies nw' M' q s ∧ q ≠ hole := by
  obtain ⟨i, h1, h4, h2, rfl, rfl, rfl⟩ := k
  have hi := (List.getElem?_eq_some_iff.1 h1).1
  have hne : ((i, st, crcOf s) : Tr3) ≠ hole := fun e => by simp only [hole, Prod.mk.injEq] at e; omega
  exact ⟨.inr ⟨hne, ⟨crcOf_lt hs.2, .inr ⟨h4, Nat.lt_of_lt_of_le h2 hn, hst.1, hst.2⟩⟩, rfl, by rw [List.getElem?_set, if_pos rfl, if_pos h2], by rw [List.getElem?_set, if_pos rfl, if_pos hi], hs⟩, hne⟩
section
variable {K : Xs} {h : AH} {p : Nat} {F : List Nat} {d m : Nat} {W : Nat} {nw : List (List Nat)} {M : List Nat} {st : Nat} {ba : Int}
/-- A pile, and which blocks are its own. -/
def PO (h : AH) (p : Nat) (F : List Nat) (d m : Nat) (W : Nat) (nw : List (List Nat)) (M : List Nat) (st : Nat) (ba : Int) : Prop := ∃ Fd, PileO h p F d m Fd W nw M st ba
theorem PO.old {h' : AH} (B : PO h p F d m W nw M st ba) (o : Old h h') : PO h' p F d m W nw M st ba := B.imp fun _ z => z.old o
theorem PO.nearN {h' : AH} {b : Nat} (B : PO h p F d m W nw M st ba) (n : Near b h h') (hb : b ∉ F) : PO h' p F d m W nw M st ba := B.imp fun _ z => z.nearN n hb
theorem PO.lt (B : PO h p F d m W nw M st ba) : ∀ c ∈ F, c < h.next := by obtain ⟨Fd, B⟩ := B; exact B.mem_lt
theorem PO.puts {Fd F' : List Nat} {i : Nat} {s : List Nat} (B : PO h p F d m W nw M st ba) (hi : M[i]? = some 1) (hl : i < nw.length) : 4 ≤ i := by
  obtain ⟨Fd, B⟩ := B
  exact (B.within i 1 hi (by decide)).1
theorem poolGet (kG : K 63 = none) (dR : K 79 = none) (dc : K 91 = none) (dh : K 92 = none) (sO : K 80 = none) (sM : K 93 = some (.sum xMore))
    (B : PO h p F d m W nw M st ba) {q : Tr3} {s : List Nat} (l : Lies nw M q s) :
    Wf Try.prog K 63 [.pointer (some ⟨p, 0, none⟩), qV q] h fun v h' => v = .tuple #[.agg (secC s).toArray, .int .i64 0] ∧ PO h' p F d m W nw M st ba ∧ Fr F h h' F := by
  obtain ⟨Fd, B⟩ := B
  refine (pileGet kG dR dc dh sO sM B l.ok.wf).mono ?_
  rintro v g ⟨P, f, hv⟩
  refine ⟨?_, ⟨Fd, P⟩, f⟩
  rcases l with ⟨rfl, rfl⟩ | ⟨h1, h2, h3, h4, h5, h6⟩
  · rcases hv with ⟨-, -, -, rfl⟩ | ⟨z, -⟩ | ⟨z, -⟩
    · rfl
    · exact absurd ⟨rfl, rfl, rfl⟩ z
    · exact absurd ⟨rfl, rfl, rfl⟩ z
  · rcases hv with ⟨z1, z2, z3, -⟩ | ⟨-, t, -, z3, -, rfl⟩ | ⟨-, z2, -⟩
    · exact absurd (Prod.ext (by simpa using z1) (Prod.ext (by simpa using z2) (by simpa using z3))) h1
    · rw [Int.toNat_natCast, h4] at z3
      cases z3
      rfl
    · exact absurd (by rw [h3]) (z2 s (by omega) (by rw [Int.toNat_natCast]; exact h4))
theorem blk_full {s : List Nat} (hs : Sec s) : blkOf s = s := by unfold blkOf; rw [hs.1]; simp
theorem poolPut (hk : K 62 = none) (hA : K 76 = none) (hI : K 88 = none) (hSt : K 74 = none) (hw0 : K 77 = none) (hW : K 89 = none) (h1 : K 91 = none) (h2 : K 92 = none) (h3 : K 99 = none) (hS : K 80 = none) (hM : K 93 = some (.sum xMore))
    (B : PO h p F d m W nw M st ba) (hw : W < 100000) {pp : Option Addr} {n c : Nat} {data : List Nat} (hd : Shows h pp n 1 (natC .u8 data)) (hpp : pp = none ∨ ∃ b off, pp = some ⟨b, off, none⟩) (hda : ∀ a, pp = some a → a.block ∉ F) (hb : ∀ x ∈ data, x < 256) (hl : data.length ≤ 128) (hf : 1 ∈ M) :
    Wf Try.prog K 62 [.pointer (some ⟨p, 0, none⟩), .slice pp n c] h fun v h' => ∃ q nw' M' F', v = .tuple #[qV q, .int .i64 0] ∧ Puts nw M st q (blkOf data) nw' M' ∧ PO h' p F' d m (W + 1) nw' M' st ba ∧ Fr F h h' F' := by
  obtain ⟨Fd, B⟩ := B
  refine (pilePut hk hA hI hSt hw0 hW h1 h2 h3 hS hM B hw hd hpp hda hb).mono ?_
  rintro v g (⟨z, -⟩ | ⟨-, i, hi, hMi, rfl, Fd', P, f⟩ | ⟨-, z, -⟩)
  · omega
  · exact ⟨(i, st, crcOf (blkOf data)), _, _, _, rfl, ⟨i, hMi, (B.within i 1 hMi (by decide)).1, hi, rfl, rfl, rfl⟩, ⟨Fd', P⟩, f⟩
  · exact absurd hf z
theorem treeLoad (hk : K 64 = none) (kG : K 63 = none) (dR : K 79 = none) (dc : K 91 = none) (dh : K 92 = none) (sO : K 80 = none) (sM : K 93 = some (.sum xMore))
    (kN : K 81 = none) (kB : K 94 = none) (kR : K 66 = none) (kw : K 98 = none) (kF : K 100 = none) (kr : K 105 = none)
    (B : PO h p F d m W nw M st ba) {q : Tr3} {qs : List Tr3} (hl : qs.length = 8) (hq : ∀ q ∈ qs, QOk q) (l : Lies nw M q (nodeB qs)) :
    Wf Try.prog K 64 [.pointer (some ⟨p, 0, none⟩), qV q] h fun v h' => v = .tuple #[.agg (ptr3 qs).toArray, .int .i64 0] ∧ PO h' p F d m W nw M st ba ∧ Fr F h h' F := by
  have hz : (ptr3 (List.replicate 8 ((0, 0, 0) : Tr3))).length = 24 := by rw [ptr3_len]; rfl
  have hl3 : (ptr3 qs).length = 24 := by rw [ptr3_len, hl]
  have hsec := nodeB_sec hl
  refine vc_tree_load hk _ _ _ _ h _ fun g0 e0 g1 e1 => ?_
  have o0 := old_of_alloc e0
  have n0 := next_of_alloc e0
  have o1 := old_of_alloc e1
  have n1 := next_of_alloc e1
  have B1 := B.old (o0.trans o1)
  have w0 := (own_new e0 B.lt).old o1
  have w1 := own_new e1 (B.old o0).lt
  refine ⟨_, _, _, w0.ld rfl, (poolGet kG dR dc dh sO sM B1 l).mono ?_⟩
  rintro _ g6 ⟨rfl, B6, f6⟩
  refine ⟨_, _, rfl, fun g9 e9 => ?_⟩
  obtain ⟨g10, k10, n10, o10, v10⟩ := put_new e9 (vs := secC (nodeB qs)) (by rw [secC_len hsec]; simp)
  refine ⟨secC_len hsec, g10, k10, fun _ => ⟨_, (v10 F B6.lt).ld (secC_len hsec), (nodeRead kN kB kR kw kF kr hsec).mono ?_⟩, fun z => absurd rfl z⟩
  rintro v g13 ⟨hv, o13⟩
  rw [nodeD_B hl hq] at hv
  rcases hv with ⟨-, rfl⟩ | ⟨z, -⟩
  rotate_left
  · exact absurd hq z
  refine ⟨_, _, rfl, fun g16 e16 => ?_⟩
  obtain ⟨g17, k17, n17, o17, v17⟩ := put_new e16 (vs := ptr3 qs) (by rw [hl3]; rfl)
  have B17 := ((B6.old o10).old o13).old o17
  have w17 := (((w1.fr f6).old o10).old o13).old o17
  obtain ⟨g19, k19, n19, w19⟩ := w17.put (vs := ptr3 qs) (by rw [hl3]; rfl)
  refine ⟨hl3, g17, k17, fun _ => ⟨_, (v17 F ((B6.old o10).old o13).lt).ld hl3, hl3, g19, k19, _, w19.ld hl3, rfl, B17.nearN n19 w17.2.2, ?_⟩, fun z => absurd rfl z⟩
  have f17 : Fr F h g17 F := (((((o0.trans o1).fr F).trans f6).trans (o10.fr F)).trans (o13.fr F)).trans (o17.fr F)
  exact f17.near_new n19 (by omega)
theorem treeSave (hk : K 60 = none) (kP : K 62 = none) (hA : K 76 = none) (hI : K 88 = none) (hSt : K 74 = none) (hw0 : K 77 = none) (hW : K 89 = none) (h1 : K 91 = none) (h2 : K 92 = none) (h3 : K 99 = none) (hS : K 80 = none) (hM : K 93 = some (.sum xMore))
    (kN : K 75 = none) (kB : K 87 = none) (kR : K 66 = none) (kw : K 98 = none) (kF : K 97 = none) (kr : K 105 = none)
    (B : PO h p F d m W nw M st ba) (hw : W < 100000) (hf : 1 ∈ M) {qs : List Tr3} (hl : qs.length = 8) (hq : ∀ q ∈ qs, QOk q) :
    Wf Try.prog K 60 [.pointer (some ⟨p, 0, none⟩), .agg (ptr3 qs).toArray] h fun v h' => ∃ q nw' M' F', v = .tuple #[qV q, .int .i64 0] ∧ Puts nw M st q (nodeB qs) nw' M' ∧ PO h' p F' d m (W + 1) nw' M' st ba ∧ Fr F h h' F' := by
  have hl3 : (ptr3 qs).length = 24 := by rw [ptr3_len, hl]
  have hsec := nodeB_sec hl
  have hls := secC_len hsec
  refine vc_tree_save hk _ _ h _ fun g0 e0 g1 e1 => ?_
  have o0 := old_of_alloc e0
  have n0 := next_of_alloc e0
  have o1 := old_of_alloc e1
  have n1 := next_of_alloc e1
  have B1 := B.old (o0.trans o1)
  have w0 := (own_new e0 B.lt).old o1
  have w1 := own_new e1 (B.old o0).lt
  refine ⟨_, w0.ld hl3, (nodeBytes kN kB kR kw kF kr hl hq).mono ?_⟩
  rintro _ g4 ⟨rfl, o4⟩
  refine ⟨_, _, rfl, fun g7 e7 => ?_⟩
  have B4 := B1.old o4
  obtain ⟨g8, k8, n8, o8, v8⟩ := put_new e7 (vs := secC (nodeB qs)) (by rw [hls]; simp)
  have w8 := v8 F B4.lt
  have B8 := B4.old o8
  have S8 : Shows g8 (some ⟨g4.next, 0, none⟩) 128 1 (natC .u8 (nodeB qs)) := ⟨hls, .inr ⟨_, 0, _, _, _, rfl, w8.2.1, w8.1, by rw [hls]; decide, by rw [List.drop_zero, List.take_of_length_le (by rw [hls]; decide)]; rfl⟩⟩
  refine ⟨hls, g8, k8, fun _ => ⟨_, _, _, sliceSec _ _, (poolPut kP hA hI hSt hw0 hW h1 h2 h3 hS hM B8 hw S8 (.inr ⟨_, _, rfl⟩) (fun a e => by cases e; exact w8.2.2) hsec.2 (Nat.le_of_eq hsec.1) hf).mono ?_⟩, fun z => absurd rfl z⟩
  rintro v g13 ⟨q, nw', M', F', rfl, hp, B13, f13⟩
  rw [blk_full hsec] at hp
  have w13 := ((w1.old o4).old o8).fr f13
  obtain ⟨g18, k18, n18, w18⟩ := w13.put (vs := [.int .i64 (q.1 : Nat), .int .u64 (q.2.1 : Nat), .int .u32 (q.2.2 : Nat)]) rfl
  refine ⟨_, _, _, _, rfl, rfl, g18, k18, _, _, _, w18.ld rfl, q, nw', M', F', rfl, hp, B13.nearN n18 w13.2.2, ?_⟩
  exact ((((((o0.trans o1).trans o4).trans o8).fr F).trans f13).near_new n18 (by omega))
/-- The functions that trees are made of, none of them told but the sum. -/
structure KTree (K : Xs) : Prop where
  pGet : K 63 = none
  pPut : K 62 = none
  pMap : K 52 = none
  pWrite : K 77 = none
  mAlloc : K 76 = none
  mIs : K 88 = none
  mSet : K 74 = none
  mCount : K 53 = none
  dWrite : K 89 = none
  dRead : K 79 = none
  dCount : K 91 = none
  dHas : K 92 = none
  dSpend : K 99 = none
  sOf : K 80 = none
  sMore : K 93 = some (.sum xMore)
  nBytes : K 75 = none
  nRead : K 81 = none
  nEmpty : K 59 = none
  qBytes : K 87 = none
  qRead : K 94 = none
  qRight : K 66 = none
  qWidths : K 98 = none
  fPut : K 97 = none
  fGet : K 100 = none
  fRoom : K 105 = none
  tWithin : K 57 = none
  tLoad : K 64 = none
  tSave : K 60 = none
  tWalk : K 58 = none
  tRep : K 61 = none
theorem treeWithin (kk : KTree K) (i : Int) : Wf Try.prog K 57 [.int .i64 i] h fun v h' => v = .bool (decide (0 ≤ i ∧ i < 64)) ∧ h = h' :=
  vc_tree_within kk.tWithin _ h _ ⟨fun h1 => ⟨fun h2 => ⟨by rw [decide_eq_true ⟨h1, h2⟩], rfl⟩, fun h2 => ⟨by rw [decide_eq_false (fun z => h2 z.2)], rfl⟩⟩, fun h1 => ⟨by rw [decide_eq_false (fun z => h1 z.1)], rfl⟩⟩
theorem load' (kk : KTree K) (B : PO h p F d m W nw M st ba) {q : Tr3} {qs : List Tr3} (hl : qs.length = 8) (hq : ∀ q ∈ qs, QOk q) (l : Lies nw M q (nodeB qs)) :
    Wf Try.prog K 64 [.pointer (some ⟨p, 0, none⟩), qV q] h fun v h' => v = .tuple #[.agg (ptr3 qs).toArray, .int .i64 0] ∧ PO h' p F d m W nw M st ba ∧ Fr F h h' F :=
  treeLoad kk.tLoad kk.pGet kk.dRead kk.dCount kk.dHas kk.sOf kk.sMore kk.nRead kk.qRead kk.qRight kk.qWidths kk.fGet kk.fRoom B hl hq l
theorem get' (kk : KTree K) (B : PO h p F d m W nw M st ba) {q : Tr3} {s : List Nat} (l : Lies nw M q s) :
    Wf Try.prog K 63 [.pointer (some ⟨p, 0, none⟩), qV q] h fun v h' => v = .tuple #[.agg (secC s).toArray, .int .i64 0] ∧ PO h' p F d m W nw M st ba ∧ Fr F h h' F :=
  poolGet kk.pGet kk.dRead kk.dCount kk.dHas kk.sOf kk.sMore B l
theorem put' (kk : KTree K) (B : PO h p F d m W nw M st ba) (hw : W < 100000) {pp : Option Addr} {n c : Nat} {data : List Nat} (hd : Shows h pp n 1 (natC .u8 data)) (hpp : pp = none ∨ ∃ b off, pp = some ⟨b, off, none⟩) (hda : ∀ a, pp = some a → a.block ∉ F) (hb : ∀ x ∈ data, x < 256) (hl : data.length ≤ 128) (hf : 1 ∈ M) :
    Wf Try.prog K 62 [.pointer (some ⟨p, 0, none⟩), .slice pp n c] h fun v h' => ∃ q nw' M' F', v = .tuple #[qV q, .int .i64 0] ∧ Puts nw M st q (blkOf data) nw' M' ∧ PO h' p F' d m (W + 1) nw' M' st ba ∧ Fr F h h' F' :=
  poolPut kk.pPut kk.mAlloc kk.mIs kk.mSet kk.pWrite kk.dWrite kk.dCount kk.dHas kk.dSpend kk.sOf kk.sMore B hw hd hpp hda hb hl hf
theorem save' (kk : KTree K) (B : PO h p F d m W nw M st ba) (hw : W < 100000) (hf : 1 ∈ M) {qs : List Tr3} (hl : qs.length = 8) (hq : ∀ q ∈ qs, QOk q) :
    Wf Try.prog K 60 [.pointer (some ⟨p, 0, none⟩), .agg (ptr3 qs).toArray] h fun v h' => ∃ q nw' M' F', v = .tuple #[qV q, .int .i64 0] ∧ Puts nw M st q (nodeB qs) nw' M' ∧ PO h' p F' d m (W + 1) nw' M' st ba ∧ Fr F h h' F' :=
  treeSave kk.tSave kk.pPut kk.mAlloc kk.mIs kk.mSet kk.pWrite kk.dWrite kk.dCount kk.dHas kk.dSpend kk.sOf kk.sMore kk.nBytes kk.qBytes kk.qRight kk.qWidths kk.fPut kk.fRoom B hw hf hl hq
theorem mapP (kk : KTree K) (B : PO h p F d m W nw M st ba) : Wf Try.prog K 52 [.pointer (some ⟨p, 0, none⟩)] h fun v h' => v = .pointer (some ⟨m, 0, none⟩) ∧ h = h' := by
  obtain ⟨Fd, B⟩ := B
  exact pileMap kk.pMap B
theorem countP (kk : KTree K) (B : PO h p F d m W nw M st ba) : Wf Try.prog K 53 [.pointer (some ⟨m, 0, none⟩)] h fun v h' => v = .int .i64 (M.count 1 : Nat) ∧ h = h' := by
  obtain ⟨Fd, B⟩ := B
  exact mapCount kk.mCount B.map
/-- A tree: its two levels of nodes. -/
structure Tree (nw : List (List Nat)) (M : List Nat) (root : Tr3) (L1 : List Tr3) (L2 : Nat → List Tr3) : Prop where
  l1 : L1.length = 8
  ok1 : ∀ q ∈ L1, QOk q
  at1 : Lies nw M root (nodeB L1)
  l2 : ∀ j, j < 8 → (L2 j).length = 8
  ok2 : ∀ j, j < 8 → ∀ q ∈ L2 j, QOk q
  at2 : ∀ (j : Nat) (q : Tr3), L1[j]? = some q → Lies nw M q (nodeB (L2 j))
theorem Tree.get1 {root : Tr3} {L1 : List Tr3} {L2 : Nat → List Tr3} (t : Tree nw M root L1 L2) {i : Nat} (hi : i < 64) : ∃ q, L1[i / 8]? = some q := ⟨_, List.getElem?_eq_getElem (by rw [t.l1]; omega)⟩
theorem Tree.get2 {root : Tr3} {L1 : List Tr3} {L2 : Nat → List Tr3} (t : Tree nw M root L1 L2) {i : Nat} (hi : i < 64) : ∃ q, (L2 (i / 8))[i % 8]? = some q := ⟨_, List.getElem?_eq_getElem (by rw [t.l2 _ (by omega)]; omega)⟩
theorem Tree.ext {nw' : List (List Nat)} {M' : List Nat} {root : Tr3} {L1 : List Tr3} {L2 : Nat → List Tr3} (t : Tree nw M root L1 L2) (x : Stay nw M nw' M') : Tree nw' M' root L1 L2 :=
  ⟨t.l1, t.ok1, t.at1.ext x, t.l2, t.ok2, fun j q hj => (t.at2 j q hj).ext x⟩
theorem zWay : aBuild Try.prog 106 #[] = some (.agg (ptr3 (List.replicate 17 (0, 0, 0))).toArray) := by kernel_rfl
theorem take_two {α : Type} {A B : List α} (h : A.length = 8) : (A ++ B).take 8 = A ∧ (A ++ B).drop 8 = B := ⟨by rw [← h, List.take_left], by rw [← h, List.drop_left]⟩
theorem treeWalk (kk : KTree K) (B : PO h p F d m W nw M st ba) {root q2 b : Tr3} {L1 : List Tr3} {L2 : Nat → List Tr3} (t : Tree nw M root L1 L2) {i : Nat} (hi : i < 64) (h1 : L1[i / 8]? = some q2) (h2 : (L2 (i / 8))[i % 8]? = some b) :
    Wf Try.prog K 58 [.pointer (some ⟨p, 0, none⟩), qV root, .int .i64 (i : Nat)] h fun v h' => v = .tuple #[.agg (ptr3 (L1 ++ L2 (i / 8) ++ [b])).toArray, .int .i64 0] ∧ PO h' p F d m W nw M st ba ∧ Fr F h h' F := by
  have l1 : (ptr3 L1).length = 24 := by rw [ptr3_len, t.l1]
  have hl2 := t.l2 (i / 8) (by omega)
  have l2 : (ptr3 (L2 (i / 8))).length = 24 := by rw [ptr3_len, hl2]
  have hz : ∀ X : List Tr3, X.length = 17 → (ptr3 X).length = 51 := fun X e => by rw [ptr3_len, e]
  refine vc_tree_walk kk.tWalk _ _ _ _ _ h _ fun g0 e0 g1 e1 g2 e2 => ?_
  have o0 := old_of_alloc e0
  have n0 := next_of_alloc e0
  have o1 := old_of_alloc e1
  have n1 := next_of_alloc e1
  have o2 := old_of_alloc e2
  have n2 := next_of_alloc e2
  have B2 := ((B.old o0).old o1).old o2
  have w0 := ((own_new e0 B.lt).old o1).old o2
  have w1 := (own_new e1 (B.old o0).lt).old o2
  have w2 := own_new e2 ((B.old o0).old o1).lt
  have f2 : Fr F h g2 F := ((o0.trans o1).trans o2).fr F
  refine ⟨_, _, _, w0.ld rfl, (load' kk B2 t.l1 t.ok1 t.at1).mono ?_⟩
  rintro _ g7 ⟨rfl, B7, f7⟩
  have e17 : ∀ {X : List Tr3}, X = List.replicate 17 hole → X.length = 17 := fun e => by rw [e]; rfl
  have w27 : Mine g7 F g1.next (ptr3 (List.replicate 17 hole)) 106 := w2.fr f7
  have w17 : Mine g7 F g0.next (ptr3 (List.replicate 17 hole)) 106 := w1.fr f7
  obtain ⟨g10, k10, nr10, w10⟩ := w27.part (off := 0) (vs := ptr3 L1) (by rw [l1, hz _ (e17 rfl)]; decide)
  have s10 := ptr3_splice (List.replicate 17 hole) L1 0
  rw [Nat.zero_mul] at s10
  rw [s10, t.l1] at w10
  have x10 : (List.replicate 17 hole).take 0 ++ L1 ++ (List.replicate 17 hole).drop (0 + 8) = L1 ++ List.replicate 9 hole := rfl
  rw [x10] at w10
  refine ⟨_, _, rfl, l1, g10, k10, fun _ => ⟨by decide, fun i11 e11 => ?_⟩, fun z => absurd rfl z⟩
  rw [show (8 : Int) = ((8 : Nat) : Int) from rfl, tdivN] at e11
  have e11 := i64w e11 (by omega) (by omega)
  subst e11
  have B10 := B7.nearN nr10 w27.2.2
  have ld12 : ldN g10 g1.next (0 + Int.toNat ((i / 8 : Nat) : Int) * 3) 3 = some [.int .i64 (q2.1 : Nat), .int .u64 (q2.2.1 : Nat), .int .u32 (q2.2.2 : Nat)] := by
    rw [Int.toNat_natCast, Nat.zero_add, w10.ldp (by rw [hz _ (by rw [List.length_append, t.l1]; rfl)]; omega), ptr3_at (q := q2)]
    rw [List.getElem?_append_left (by rw [t.l1]; omega)]
    exact h1
  refine ⟨by omega, by omega, _, _, _, ld12, (load' kk B10 hl2 (t.ok2 _ (by omega)) (t.at2 _ _ h1)).mono ?_⟩
  rintro _ g16 ⟨rfl, B16, f16⟩
  have w16 := w10.fr f16
  have w116 := (w17.near nr10 (by omega)).fr f16
  obtain ⟨g19, k19, nr19, w19⟩ := w16.part (off := 24) (vs := ptr3 (L2 (i / 8))) (by rw [l2, hz _ (by rw [List.length_append, t.l1]; rfl)]; decide)
  have s19 := ptr3_splice (L1 ++ List.replicate 9 hole) (L2 (i / 8)) 8
  rw [show 8 * 3 = 24 from rfl] at s19
  have x19 : (L1 ++ List.replicate 9 hole).take 8 ++ L2 (i / 8) ++ (L1 ++ List.replicate 9 hole).drop (8 + (L2 (i / 8)).length) = L1 ++ L2 (i / 8) ++ [hole] := by
    rw [(take_two t.l1).1, hl2, ← List.drop_drop, (take_two t.l1).2]
    rfl
  rw [s19, x19] at w19
  refine ⟨_, _, rfl, l2, g19, k19, fun _ => ⟨by decide, fun i20 e20 => ?_⟩, fun z => absurd rfl z⟩
  rw [show (8 : Int) = ((8 : Nat) : Int) from rfl, tmodN] at e20
  subst e20
  have hll : (L1 ++ L2 (i / 8)).length = 16 := by rw [List.length_append, t.l1, hl2]
  have ld20 : ldN g19 g1.next (24 + Int.toNat ((i % 8 : Nat) : Int) * 3) 3 = some [.int .i64 (b.1 : Nat), .int .u64 (b.2.1 : Nat), .int .u32 (b.2.2 : Nat)] := by
    rw [Int.toNat_natCast, show 24 + i % 8 * 3 = (8 + i % 8) * 3 by omega, w19.ldp (by rw [hz _ (by rw [List.length_append, hll]; rfl)]; omega), ptr3_at (q := b)]
    rw [List.getElem?_append_left (by rw [hll]; omega), List.getElem?_append_right (by rw [t.l1]; omega), t.l1, show 8 + i % 8 - 8 = i % 8 by omega]
    exact h2
  obtain ⟨g24, k24, nr24, w24⟩ := w19.part (off := 48) (vs := [.int .i64 (b.1 : Nat), .int .u64 (b.2.1 : Nat), .int .u32 (b.2.2 : Nat)]) (by rw [hz _ (by rw [List.length_append, hll]; rfl)]; exact Nat.le_refl 51)
  have s24 := ptr3_splice (L1 ++ L2 (i / 8) ++ [hole]) [b] 16
  rw [show 16 * 3 = 48 from rfl] at s24
  have x24 : (L1 ++ L2 (i / 8) ++ [hole]).take 16 ++ [b] ++ (L1 ++ L2 (i / 8) ++ [hole]).drop (16 + [b].length) = L1 ++ L2 (i / 8) ++ [b] := by
    rw [← hll, List.take_left, List.drop_eq_nil_of_le (by rw [List.length_append]; exact Nat.le_refl _), List.append_nil]
  rw [x24] at s24
  have s24' := s24
  rw [show ptr3 [b] = [.int .i64 (b.1 : Nat), .int .u64 (b.2.1 : Nat), .int .u32 (b.2.2 : Nat)] from rfl] at s24'
  rw [s24'] at w24
  have h51 := hz (L1 ++ L2 (i / 8) ++ [b]) (by rw [List.length_append, hll]; rfl)
  have w124 := (w116.near nr19 (by omega)).near nr24 (by omega)
  obtain ⟨g26, k26, nr26, w26⟩ := w124.put (vs := ptr3 (L1 ++ L2 (i / 8) ++ [b])) (by rw [h51]; rfl)
  refine ⟨by omega, by omega, _, _, _, ld20, rfl, g24, k24, _, w24.ld h51, h51, g26, k26, _, w26.ld h51, rfl, ((B16.nearN nr19 w16.2.2).nearN nr24 w19.2.2).nearN nr26 w124.2.2, ?_⟩
  exact ((((((f2.trans f7).near_new nr10 (by omega)).trans f16).near_new nr19 (by omega)).near_new nr24 (by omega)).near_new nr26 (by omega))
def noHoles (l : List Tr3) : List Tr3 := l.filter fun q => decide (q ≠ hole)
theorem ePtr : ElemOk Try.prog 29 28 3 24 := ElemOk_of (by kernel_rfl)
theorem key3 {q : Tr3} (k : QOk q) : keyA Try.prog 28 (.agg #[.int .i64 (q.1 : Nat), .int .u64 (q.2.1 : Nat), .int .u32 (q.2.2 : Nat)]) = some [.int .i64 (q.1 : Nat), .int .u64 (q.2.1 : Nat), .int .u32 (q.2.2 : Nat)] := kPtr k.wf.1 k.wf.2.1 k.wf.2.2
theorem hole3 (q : Tr3) : litsEq [.int .i64 (q.1 : Nat), .int .u64 (q.2.1 : Nat), .int .u32 (q.2.2 : Nat)] [.int .i64 0, .int .u64 0, .int .u32 0] = decide (q = hole) := by
  rw [lits_hole]
  obtain ⟨x, y, z⟩ := q
  by_cases e : x = 0 ∧ y = 0 ∧ z = 0
  · obtain ⟨rfl, rfl, rfl⟩ := e
    rfl
  · rw [decide_eq_false (by simp only; omega), decide_eq_false (by simp only [hole, Prod.mk.injEq]; exact e)]
theorem treeReplaced (kk : KTree K) {F : List Nat} (hF : ∀ c ∈ F, c < h.next) {root q2 b : Tr3} {L1 L2 : List Tr3} (l1 : L1.length = 8) (l2 : L2.length = 8) (kr : QOk root) (k2 : QOk q2) (kb : QOk b) {i : Nat} (hi : i < 64) (h1 : L1[i / 8]? = some q2) :
    Wf Try.prog K 61 [.agg (ptr3 (L1 ++ L2 ++ [b])).toArray, qV root, .int .i64 (i : Nat)] h fun v h' => (∃ pp n c, v = .slice pp n c ∧ Grow h.next h' 28 3 pp n c (ptr3 (noHoles [b, q2, root]))) ∧ Old h h' := by
  have hll : (L1 ++ L2).length = 16 := by rw [List.length_append, l1, l2]
  have h17 : (L1 ++ L2 ++ [b]).length = 17 := by rw [List.length_append, hll]; rfl
  have h51 : (ptr3 (L1 ++ L2 ++ [b])).length = 51 := by rw [ptr3_len, h17]
  refine vc_tree_way_replaced kk.tRep _ _ _ _ _ h _ fun g0 e0 g1 e1 => ?_
  have o0 := old_of_alloc e0
  have n0 := next_of_alloc e0
  have o1 := old_of_alloc e1
  have n1 := next_of_alloc e1
  have w0 := (own_new (F := F) e0 hF).old o1
  have w1 := own_new (F := F) e1 (fun c hc => by have := hF c hc; omega)
  have ld2 : ldN g1 h.next 48 3 = some [.int .i64 (b.1 : Nat), .int .u64 (b.2.1 : Nat), .int .u32 (b.2.2 : Nat)] := by
    rw [show 48 = 16 * 3 from rfl, w0.ldp (by rw [h51]; decide), ptr3_at (q := b)]
    rw [List.getElem?_append_right (by omega), hll]
    rfl
  refine ⟨_, _, _, ld2, by decide, fun i5 e5 => ?_⟩
  rw [show (8 : Int) = ((8 : Nat) : Int) from rfl, tdivN] at e5
  have e5 := i64w e5 (by omega) (by omega)
  subst e5
  have ld6 : ldN g1 h.next (0 + Int.toNat ((i / 8 : Nat) : Int) * 3) 3 = some [.int .i64 (q2.1 : Nat), .int .u64 (q2.2.1 : Nat), .int .u32 (q2.2.2 : Nat)] := by
    rw [Int.toNat_natCast, Nat.zero_add, w0.ldp (by rw [h51]; omega), ptr3_at (q := q2)]
    rw [List.getElem?_append_left (by rw [hll]; omega), List.getElem?_append_left (by rw [l1]; omega)]
    exact h1
  refine ⟨by omega, by omega, _, _, _, ld6, _, _, _, w1.ld rfl, fun pp n c i k g => ∃ j : Nat, i = j ∧ j ≤ 3 ∧ 3 - j = k ∧ Old h g ∧ Grow h.next g 28 3 pp n c (ptr3 (noHoles ([b, q2, root].take j))), ⟨_, 0, rfl, by decide, rfl, o0.trans o1, Grow.nil _ _ _ _⟩, ?_⟩
  rintro k13 g14 p16 n17 c18 i19 ⟨j, rfl, hj, rfl, o14, G14⟩
  refine ⟨fun z => ?_, fun z => ?_⟩
  · have hj3 : j < [b, q2, root].length := by show j < 3; omega
    have hok : QOk ([b, q2, root][j]) := by
      have : [b, q2, root][j] ∈ [b, q2, root] := List.getElem_mem hj3
      simp only [List.mem_cons, List.not_mem_nil, or_false] at this
      rcases this with e | e | e <;> rw [e] <;> assumption
    have htk : [b, q2, root].take (j + 1) = [b, q2, root].take j ++ [[b, q2, root][j]] := List.take_succ_eq_append_getElem hj3
    have hg := ptr3_get [b, q2, root] j hj3
    generalize [b, q2, root][j] = x at hok htk hg
    have hlen : (noHoles ([b, q2, root].take j)).length ≤ 3 := Nat.le_trans (List.length_filter_le _ _) (by rw [List.length_take]; show min j 3 ≤ 3; omega)
    have hn17 : n17 ≤ 3 := by have := G14.1; rw [ptr3_len] at this; omega
    refine ⟨by omega, by omega, ((x.1 : Nat) : Int), ((x.2.1 : Nat) : Int), ((x.2.2 : Nat) : Int), by rw [Int.toNat_natCast]; exact hg, fun g23 e23 => ?_⟩
    obtain ⟨g24, k24, n24, o24, v24⟩ := put_new e23 (vs := [.int .i64 (x.1 : Nat), .int .u64 (x.2.1 : Nat), .int .u32 (x.2.2 : Nat)]) rfl
    have w24 := v24 [] (fun c hc => by cases hc)
    refine ⟨rfl, g24, k24, _, _, _, w24.ld rfl, _, _, key3 hok, kHole, fun e i30 e30 => ?_, fun e => ⟨_, _, _, w24.ld rfl, fun g34 e34 => ?_⟩⟩
    · rw [hole3] at e
      have e := of_decide_eq_true e
      have e30 := i64w e30 (by omega) (by omega)
      exact ⟨_, by omega, j + 1, by rw [e30]; rfl, by omega, rfl, o14.trans o24, by rw [htk, noHoles, List.filter_append, e]; simpa [noHoles] using G14.old o24⟩
    · rw [hole3] at e
      have e := of_decide_eq_false e
      obtain ⟨p', c', g38, k38, G38, ob, -, -⟩ := (G14.old o24).push ePtr (by have := o14.1; have := o24.1; omega) (m := 1) e34 rfl (by unfold roomMax; omega) (by omega)
      refine ⟨_, _, _, g38, k38, fun i39 e39 => ?_⟩
      have e39 := i64w e39 (by omega) (by omega)
      refine ⟨_, by omega, j + 1, by rw [e39]; rfl, by omega, rfl, ⟨by have := o14.1; have := o24.1; have := ob.1; omega, fun c hc => by rw [ob.2 c hc, o24.2 c (by have := o14.1; omega), o14.2 c hc]⟩, ?_⟩
      rw [htk, noHoles, List.filter_append, show List.filter (fun q => decide (q ≠ hole)) [x] = [x] by simp [e], ptr3_app]
      exact G38
  · have hj3 : j = 3 := by omega
    subst hj3
    exact ⟨⟨_, _, _, rfl, G14⟩, o14⟩
theorem Puts.len {q : Tr3} {s : List Nat} {nw' : List (List Nat)} {M' : List Nat} (k : Puts nw M st q s nw' M') : nw'.length = nw.length := by
  obtain ⟨i, -, -, -, -, rfl, -⟩ := k
  rw [List.length_set]
theorem Puts.cnt {q : Tr3} {s : List Nat} {nw' : List (List Nat)} {M' : List Nat} (k : Puts nw M st q s nw' M') : M'.count 1 + 1 = M.count 1 := by
  obtain ⟨i, h1, -, -, -, -, rfl⟩ := k
  have h2 := count_setN h1 1 (b := 2)
  have h3 := count_pos h1
  simp at h2
  omega
theorem one_mem {M : List Nat} (h : 1 ≤ M.count 1) : 1 ∈ M := List.count_pos_iff.1 h
theorem set_ok {l : List Tr3} {i : Nat} {q : Tr3} (hl : ∀ x ∈ l, QOk x) (hq : QOk q) : ∀ x ∈ l.set i q, QOk x := fun x hx => (List.mem_or_eq_of_mem_set hx).elim (hl x) (fun e => by rw [e]; exact hq)
theorem way1 {L1 L2 : List Tr3} {b : Tr3} (l1 : L1.length = 8) : ((ptr3 (L1 ++ L2 ++ [b])).drop 0).take 24 = ptr3 L1 := by
  rw [List.drop_zero, show 24 = 8 * 3 from rfl, ptr3_take, List.append_assoc, (take_two l1).1]
theorem way2 {L1 L2 : List Tr3} {b : Tr3} (l1 : L1.length = 8) (l2 : L2.length = 8) : ((ptr3 (L1 ++ L2 ++ [b])).drop 24).take 24 = ptr3 L2 := by
  rw [show 24 = 8 * 3 from rfl, ptr3_drop, ptr3_take, List.append_assoc, (take_two l1).2, (take_two l2).1]
theorem way_len {L1 L2 : List Tr3} {b : Tr3} (l1 : L1.length = 8) (l2 : L2.length = 8) : (ptr3 (L1 ++ L2 ++ [b])).length = 51 := by
  rw [ptr3_len, List.length_append, List.length_append, l1, l2]; rfl
theorem treeSet (kk : KTree K) (kS : K 32 = none) (B : PO h p F d m W nw M st ba) (hw : W + 3 < 100000) (hst : StOk st) (hn : nw.length ≤ 1024) {root : Tr3} {L1 : List Tr3} {L2 : Nat → List Tr3} (t : Tree nw M root L1 L2) (ii : Int)
    {pp : Option Addr} {n c : Nat} {data : List Nat} (hd : Shows h pp n 1 (natC .u8 data)) (hpp : pp = none ∨ ∃ b off, pp = some ⟨b, off, none⟩) (hda : ∀ a, pp = some a → a.block ∉ F) (hb : ∀ x ∈ data, x < 256) (hc : 3 ≤ M.count 1) :
    Wf Try.prog K 32 [.pointer (some ⟨p, 0, none⟩), qV root, .int .i64 ii, .slice pp n c] h fun v h' =>
      (∃ e : Int, e ≠ 0 ∧ (¬ (0 ≤ ii ∧ ii < 64) ∨ 128 < data.length) ∧ v = .tuple #[qV root, .slice none 0 0, .int .i64 e] ∧ PO h' p F d m W nw M st ba ∧ Fr F h h' F) ∨
      (∃ (i : Nat) (q2 b q1 q2' q3 : Tr3) (nw1 : List (List Nat)) (M1 : List Nat) (nw2 : List (List Nat)) (M2 : List Nat) (nw3 : List (List Nat)) (M3 F' : List Nat) (pr : Option Addr) (nr cr : Nat),
        ii = i ∧ i < 64 ∧ data.length ≤ 128 ∧ L1[i / 8]? = some q2 ∧ (L2 (i / 8))[i % 8]? = some b ∧ v = .tuple #[qV q3, .slice pr nr cr, .int .i64 0] ∧
        Puts nw M st q1 (blkOf data) nw1 M1 ∧ Puts nw1 M1 st q2' (nodeB ((L2 (i / 8)).set (i % 8) q1)) nw2 M2 ∧ Puts nw2 M2 st q3 (nodeB (L1.set (i / 8) q2')) nw3 M3 ∧
        PO h' p F' d m (W + 3) nw3 M3 st ba ∧ Fr F h h' F' ∧ Grow h.next h' 28 3 pr nr cr (ptr3 (noHoles [b, q2, root])) ∧ ∀ a, pr = some a → a.block ∉ F') := by
  have hnd : n = data.length := by have := hd.1; rw [natC_len] at this; omega
  refine vc_tree_Set kS _ _ _ _ _ _ _ _ h _ fun g0 e0 g1 e1 => (treeWithin kk ii).mono ?_
  have o0 := old_of_alloc e0
  have n0 := next_of_alloc e0
  have o1 := old_of_alloc e1
  have n1 := next_of_alloc e1
  have B1 := (B.old o0).old o1
  have w0 := (own_new e0 B.lt).old o1
  have w1 := own_new e1 (B.old o0).lt
  have f1 : Fr F h g1 F := (o0.trans o1).fr F
  rintro _ _ ⟨rfl, rfl⟩
  by_cases hr : 0 ≤ ii ∧ ii < 64
  rotate_left
  · obtain ⟨g2, k2, nr2, w2⟩ := w1.put (vs := [.int .i64 (root.1 : Nat), .int .u64 (root.2.1 : Nat), .int .u32 (root.2.2 : Nat)]) rfl
    exact .inr ⟨by rw [decide_eq_false hr], _, _, _, w0.ld rfl, rfl, g2, k2, _, _, _, w2.ld rfl, .inl ⟨111, by decide, .inl hr, rfl, B1.nearN nr2 w1.2.2, f1.near_new nr2 (by omega)⟩⟩
  refine .inl ⟨by rw [decide_eq_true hr], fun q => ?_, fun q => ?_⟩
  · obtain ⟨g2, k2, nr2, w2⟩ := w1.put (vs := [.int .i64 (root.1 : Nat), .int .u64 (root.2.1 : Nat), .int .u32 (root.2.2 : Nat)]) rfl
    exact ⟨_, _, _, w0.ld rfl, rfl, g2, k2, _, _, _, w2.ld rfl, .inl ⟨92, by decide, .inr (by omega), rfl, B1.nearN nr2 w1.2.2, f1.near_new nr2 (by omega)⟩⟩
  obtain ⟨i, rfl⟩ : ∃ i : Nat, ii = i := ⟨ii.toNat, by omega⟩
  have hi : i < 64 := by omega
  obtain ⟨q2, hq2⟩ := t.get1 hi
  obtain ⟨b, hbq⟩ := t.get2 hi
  have hl2 := t.l2 (i / 8) (by omega)
  have h51 := way_len (b := b) t.l1 hl2
  have z24 : (ptr3 L1).length = 24 := by rw [ptr3_len, t.l1]
  have y24 : (ptr3 (L2 (i / 8))).length = 24 := by rw [ptr3_len, hl2]
  refine ⟨_, _, _, w0.ld rfl, (treeWalk kk B1 t hi hq2 hbq).mono ?_⟩
  rintro _ g15 ⟨rfl, B15, f15⟩
  refine ⟨_, _, rfl, fun g18 e18 => ?_⟩
  obtain ⟨g19, k19, n19, o19, v19⟩ := put_new e18 (vs := ptr3 (L1 ++ L2 (i / 8) ++ [b])) (by rw [h51]; rfl)
  have w19 := v19 F B15.lt
  have B19 := B15.old o19
  have fA : Fr F g1 g19 F := f15.trans (o19.fr F)
  refine ⟨h51, g19, k19, fun _ => (mapP kk B19).mono ?_, fun z => absurd rfl z⟩
  rintro _ _ ⟨rfl, rfl⟩
  refine ⟨_, rfl, (countP kk B19).mono ?_⟩
  rintro _ _ ⟨rfl, rfl⟩
  refine ⟨_, rfl, fun z => absurd z (by omega), fun _ => (put' kk B19 (by omega) (hd.fr (f1.trans fA) hda) hpp hda hb (by omega) (one_mem (by omega))).mono ?_⟩
  rintro _ g34 ⟨q1, nw1, M1, F1, rfl, p1, B34, f34⟩
  refine ⟨_, _, _, _, rfl, fun g39 e39 => ?_⟩
  obtain ⟨g40, k40, n40, o40, v40⟩ := put_new e39 (vs := [.int .i64 (q1.1 : Nat), .int .u64 (q1.2.1 : Nat), .int .u32 (q1.2.2 : Nat)]) rfl
  have u40 := v40 F1 B34.lt
  have B40 := B34.old o40
  have fB : Fr F g19 g40 F1 := f34.trans (o40.fr F1)
  have w40 := w19.fr fB
  have hs1 : Sec (blkOf data) := blk_sec (by omega) hb
  obtain ⟨ly1, ne1⟩ := p1.lies hn hs1 hst
  have c1 := p1.cnt
  refine ⟨rfl, g40, k40, fun _ => ⟨ptr3 (L2 (i / 8)), by rw [w40.ldp (by rw [h51]; decide), way2 t.l1 hl2], fun g42 e42 => ?_⟩, fun z => absurd rfl z⟩
  obtain ⟨g43, k43, n43, o43, v43⟩ := put_new e42 (vs := ptr3 (L2 (i / 8))) (by rw [y24]; rfl)
  refine ⟨y24, g43, k43, by decide, fun i44 e44 => ?_⟩
  rw [show (8 : Int) = ((8 : Nat) : Int) from rfl, tmodN] at e44
  subst e44
  obtain ⟨g48, k48, nr48, w48⟩ := (v43 F1 B40.lt).part (off := i % 8 * 3) (vs := [.int .i64 (q1.1 : Nat), .int .u64 (q1.2.1 : Nat), .int .u32 (q1.2.2 : Nat)]) (by rw [y24]; simp only [List.length_cons, List.length_nil]; omega)
  have s48 := ptr3_set (L2 (i / 8)) (i % 8) q1 (by omega)
  simp only [List.length_cons, List.length_nil] at w48
  rw [show i % 8 * 3 + (0 + 1 + 1 + 1) = i % 8 * 3 + 3 by omega, s48] at w48
  have hls : ((L2 (i / 8)).set (i % 8) q1).length = 8 := by rw [List.length_set, hl2]
  have hok2 := set_ok (i := i % 8) (t.ok2 (i / 8) (by omega)) ly1.ok
  refine ⟨_, _, _, (u40.old o43).ld rfl, by omega, by omega, rfl, g48, by rw [Int.toNat_natCast, Nat.zero_add]; exact k48, _, w48.ld (by rw [ptr3_len, hls]), ?_⟩
  have B48 := (B40.old o43).nearN nr48 w48.2.2
  refine (save' kk B48 (by omega) (one_mem (by omega)) hls hok2).mono ?_
  rintro _ g51 ⟨q2', nw2, M2, F2, rfl, p2, B51, f51⟩
  refine ⟨_, _, _, _, rfl, fun g56 e56 => ?_⟩
  obtain ⟨g57, k57, n57, o57, v57⟩ := put_new e56 (vs := [.int .i64 (q2'.1 : Nat), .int .u64 (q2'.2.1 : Nat), .int .u32 (q2'.2.2 : Nat)]) rfl
  have u57 := v57 F2 B51.lt
  have B57 := B51.old o57
  have fC : Fr F1 g40 g57 F2 := (((o43.fr F1).near_new nr48 (Nat.le_refl _)).trans f51).trans (o57.fr F2)
  have w57 := w40.fr fC
  obtain ⟨ly2, ne2⟩ := p2.lies (by rw [p1.len]; exact hn) (nodeB_sec hls) hst
  have c2 := p2.cnt
  refine ⟨rfl, g57, k57, fun _ => ⟨ptr3 L1, by rw [w57.ldp (by rw [h51]; decide), way1 t.l1], fun g59 e59 => ?_⟩, fun z => absurd rfl z⟩
  obtain ⟨g60, k60, n60, o60, v60⟩ := put_new e59 (vs := ptr3 L1) (by rw [z24]; rfl)
  refine ⟨z24, g60, k60, by decide, fun i61 e61 => ?_⟩
  rw [show (8 : Int) = ((8 : Nat) : Int) from rfl, tdivN] at e61
  have e61 := i64w e61 (by omega) (by omega)
  subst e61
  obtain ⟨g65, k65, nr65, w65⟩ := (v60 F2 B57.lt).part (off := i / 8 * 3) (vs := [.int .i64 (q2'.1 : Nat), .int .u64 (q2'.2.1 : Nat), .int .u32 (q2'.2.2 : Nat)]) (by rw [z24]; simp only [List.length_cons, List.length_nil]; omega)
  have s65 := ptr3_set L1 (i / 8) q2' (by rw [t.l1]; omega)
  simp only [List.length_cons, List.length_nil] at w65
  rw [show i / 8 * 3 + (0 + 1 + 1 + 1) = i / 8 * 3 + 3 by omega, s65] at w65
  have hlt : (L1.set (i / 8) q2').length = 8 := by rw [List.length_set, t.l1]
  have hok1 := set_ok (i := i / 8) t.ok1 ly2.ok
  refine ⟨_, _, _, (u57.old o60).ld rfl, by omega, by omega, rfl, g65, by rw [Int.toNat_natCast, Nat.zero_add]; exact k65, _, w65.ld (by rw [ptr3_len, hlt]), ?_⟩
  have B65 := (B57.old o60).nearN nr65 w65.2.2
  refine (save' kk B65 (by omega) (one_mem (by omega)) hlt hok1).mono ?_
  rintro _ g68 ⟨q3, nw3, M3, F3, rfl, p3, B68, f68⟩
  refine ⟨_, _, _, _, rfl, fun g73 e73 => ?_⟩
  obtain ⟨g74, k74, n74, o74, v74⟩ := put_new e73 (vs := [.int .i64 (q3.1 : Nat), .int .u64 (q3.2.1 : Nat), .int .u32 (q3.2.2 : Nat)]) rfl
  have u74 := v74 F3 B68.lt
  have B74 := B68.old o74
  have fD : Fr F2 g57 g74 F3 := (((o60.fr F2).near_new nr65 (Nat.le_refl _)).trans f68).trans (o74.fr F3)
  have w74 := w57.fr fD
  have r74 := (((w0.fr fA).fr fB).fr fC).fr fD
  have x74 := (((w1.fr fA).fr fB).fr fC).fr fD
  have f74 : Fr F h g74 F3 := (((f1.trans fA).trans fB).trans fC).trans fD
  refine ⟨rfl, g74, k74, fun _ => ⟨_, w74.ld h51, _, _, _, r74.ld rfl, (treeReplaced kk B74.lt t.l1 hl2 t.at1.ok (t.at2 _ _ hq2).ok (t.ok2 (i / 8) (by omega) b (List.mem_of_getElem? hbq)) hi hq2).mono ?_⟩, fun z => absurd rfl z⟩
  rintro _ g80 ⟨⟨pr, nr, cr, rfl, G⟩, o80⟩
  have x80 := x74.old o80
  obtain ⟨g87, k87, nr87, w87⟩ := x80.put (vs := [.int .i64 (q3.1 : Nat), .int .u64 (q3.2.1 : Nat), .int .u32 (q3.2.2 : Nat)]) rfl
  refine ⟨_, _, _, rfl, _, _, _, (u74.old o80).ld rfl, rfl, g87, k87, u74.ld rfl, (u74.old o80).ld rfl, _, _, _, w87.ld rfl, .inr ⟨i, q2, b, q1, q2', q3, nw1, M1, nw2, M2, nw3, M3, F3, pr, nr, cr, rfl, hi, by omega, hq2, hbq, rfl, p1, p2, p3, (B74.old o80).nearN nr87 x80.2.2, (f74.trans (o80.fr F3)).near_new nr87 (by omega), G.near nr87 x74.2.1 f74.1, fun a e z => ?_⟩⟩
  exact absurd (B74.lt _ z) (Nat.not_lt.2 (G.block e).1)
/-! ## What was born behind a stamp -/
def sinceB (sn : Int) (q : Tr3) : Bool := decide (q ≠ hole ∧ sn < (q.2.1 : Nat))
def kids (L1 : List Tr3) (L2 : Nat → List Tr3) (sn : Int) (j : Nat) : List Tr3 := match L1[j]? with | some q => if sinceB sn q = true then q :: (L2 j).filter (sinceB sn) else [] | none => []
def allL (root : Tr3) (L1 : List Tr3) (L2 : Nat → List Tr3) (sn : Int) : List Tr3 := if sinceB sn root = true then root :: (List.range 8).flatMap (kids L1 L2 sn) else []
theorem kids_len {L1 : List Tr3} {L2 : Nat → List Tr3} (l2 : ∀ j, j < 8 → (L2 j).length = 8) (sn : Int) {j : Nat} (hj : j < 8) : (kids L1 L2 sn j).length ≤ 9 := by
  unfold kids
  split
  · split
    · have := List.length_filter_le (sinceB sn) (L2 j)
      have := l2 j hj
      simp only [List.length_cons]
      omega
    · simp
  · simp
theorem kids_all {L1 : List Tr3} {L2 : Nat → List Tr3} (l2 : ∀ j, j < 8 → (L2 j).length = 8) (sn : Int) : ∀ j, j ≤ 8 → ((List.range j).flatMap (kids L1 L2 sn)).length ≤ 9 * j
  | 0, _ => by simp
  | j + 1, hj => by
    have h1 := kids_all (L1 := L1) l2 sn j (by omega)
    have h2 := kids_len (L1 := L1) l2 sn (j := j) (by omega)
    rw [List.range_succ, List.flatMap_append, List.length_append]
    simp only [List.flatMap_cons, List.flatMap_nil, List.append_nil]
    omega
theorem sinceIs {q : Tr3} {sn : Int} {v : Value} (hv : (v = .bool true ∧ q ≠ (0, 0, 0) ∧ sn < (q.2.1 : Nat)) ∨ (v = .bool false ∧ ¬ (q ≠ (0, 0, 0) ∧ sn < (q.2.1 : Nat)))) : (v = .bool true ∧ sinceB sn q = true) ∨ (v = .bool false ∧ sinceB sn q = false) :=
  hv.elim (fun z => .inl ⟨z.1, decide_eq_true z.2⟩) (fun z => .inr ⟨z.1, decide_eq_false z.2⟩)
end
end Go.Am
