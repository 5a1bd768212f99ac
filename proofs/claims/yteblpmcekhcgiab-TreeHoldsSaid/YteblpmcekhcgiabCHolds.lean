/-
  WHAT IS SET IS HAD: the law of trees, as the abstract machine runs it.
-/
import Derived.Test.YteblpmcekhcgiabCBlocks
import Derived.Test.YteblpmcekhcgiabCActs
import Derived.Test.YteblpmcekhcgiabCAcc
import Derived.Test.YteblpmcekhcgiabVTreeH
set_option linter.unusedVariables false
set_option linter.unusedSimpArgs false
set_option maxRecDepth 100000
namespace Go.Am
open Go.Proofs
theorem new200h : (newM 200).count 1 = 196 := by kernel_rfl
theorem zNow : aBuild Try.prog 58 #[] = some (.agg (List.replicate 8192 (Value.int .u8 0)).toArray) := by kernel_rfl
theorem zIs : aBuild Try.prog 59 #[] = some (.agg (List.replicate 64 (Value.bool false)).toArray) := by kernel_rfl
theorem zeroSec : zeroCellsOf Try.prog 57 = some (List.replicate 128 (Value.int .u8 0)) := by kernel_rfl
theorem eSec : ElemOk Try.prog 60 57 128 128 := ElemOk_of (by kernel_rfl)
theorem secs0 (h : AH) : aBuildSlice Try.prog h 60 0 #[] = some (.slice (some ⟨h.next, 0, none⟩) 0 0, h.alloc (.cells [] 57 false)) := by
  obtain ⟨hu, i, z0, hi, hz0, hzs, hpos, hs, hby⟩ := eSec
  unfold aBuildSlice
  rw [hu]
  simp only [hi, zeroSec]
  rw [if_neg (by simp), if_pos ⟨by omega, by simp [hs], by decide⟩]
  rfl
theorem secsC_zero : List.replicate 8192 (Value.int .u8 0) = secsC (List.replicate 64 (List.replicate 128 0)) := by
  unfold secsC
  rw [List.map_replicate, ← secC_zero, List.flatten_replicate_replicate]
theorem secsC_one (s : List Nat) : secsC [s] = secC s := by simp [secsC]
theorem secsC_app (a b : List (List Nat)) : secsC (a ++ b) = secsC a ++ secsC b := by simp [secsC]
/-- Which blocks there are, as bits. -/
def isC (f : Nat → Bool) : List Value := (List.range 64).map fun k => .bool (f k)
theorem isC_len (f : Nat → Bool) : (isC f).length = 64 := by simp [isC]
theorem isC_get {f : Nat → Bool} {k : Nat} (hk : k < 64) : (isC f)[k]? = some (.bool (f k)) := by simp [isC, hk]
theorem isC_set {f g : Nat → Bool} {k : Nat} {b : Bool} (h1 : g k = b) (h2 : ∀ j, j ≠ k → g j = f j) : (isC f).set k (.bool b) = isC g := by
  apply List.ext_getElem?
  intro j
  rw [List.getElem?_set, isC_len]
  by_cases hj : j < 64
  · rw [isC_get hj, isC_get hj]
    by_cases e : k = j
    · subst e
      rw [if_pos rfl, if_pos hj, h1]
    · rw [if_neg e, h2 j (fun z => e z.symm)]
  · rw [List.getElem?_eq_none (l := isC f) (by rw [isC_len]; omega), List.getElem?_eq_none (l := isC g) (by rw [isC_len]; omega)]
    split
    · rw [if_neg (by omega)]
    · rfl
def isF (L2 : Nat → List Tr3) : Nat → Bool := fun k => decide (blkP L2 k ≠ hole)
theorem isF_none : isC (isF (fun _ => holes)) = List.replicate 64 (.bool false) := by kernel_rfl
theorem upd2_same {L2 : Nat → List Tr3} {a k : Nat} {c : Tr3} (h : (L2 a)[k]? = some c) : upd2 L2 a ((L2 a).set k c) = L2 := by
  funext j
  unfold upd2
  by_cases e : j = a
  · subst e
    rw [if_pos rfl]
    apply List.ext_getElem?
    intro i
    rw [List.getElem?_set]
    by_cases e2 : k = i
    · subst e2
      rw [if_pos rfl, if_pos (List.getElem?_eq_some_iff.1 h).1, h]
    · rw [if_neg e2]
  · rw [if_neg e]
theorem blkP_upd' {L2 : Nat → List Tr3} {x : Nat} {c : Tr3} (hl : (L2 (x / 8)).length = 8) (k : Nat) : blkP (upd2 L2 (x / 8) ((L2 (x / 8)).set (x % 8) c)) k = if k = x then c else blkP L2 k := by
  unfold blkP upd2
  by_cases e : k = x
  · subst e
    rw [if_pos rfl, if_pos rfl, List.getElem?_set, if_pos rfl, if_pos (by omega)]
    rfl
  · rw [if_neg e]
    by_cases e2 : k / 8 = x / 8
    · rw [if_pos e2, List.getElem?_set, if_neg (by omega), e2]
    · rw [if_neg e2]
theorem blkP_get {nw : List (List Nat)} {M : List Nat} {root : Tr3} {L1 : List Tr3} {L2 : Nat → List Tr3} (t : Tree nw M root L1 L2) {i : Nat} (hi : i < 64) : (L2 (i / 8))[i % 8]? = some (blkP L2 i) := by
  obtain ⟨q, hq⟩ := t.get2 hi
  unfold blkP
  rw [hq]
  rfl
/-- Blocks that are not in a set, nor any of some. -/
def Away (p : Option Addr) (F L : List Nat) : Prop := ∀ a, p = some a → a.block ∉ F ∧ a.block ∉ L
theorem Grow.keep1 {lim : Nat} {h h' : AH} {elem : TypeId} {sz : Nat} {p q : Option Addr} {n c : Nat} {cs : List Value} (g : Grow lim h elem sz p n c cs) (k : Keep1 q h h') (hne : ∀ a b, p = some a → q = some b → b.block ≠ a.block) : Grow lim h' elem sz p n c cs := by
  refine ⟨g.1, ?_⟩
  rcases g.2 with z | ⟨b', hp, h1, h2, h3, h4⟩
  · exact .inl z
  · exact .inr ⟨b', hp, h1, Nat.lt_of_lt_of_le h2 k.1, by rw [k.2 b' h2 (apart_of fun a e => hne _ a hp e)]; exact h3, h4⟩
theorem Grow.oldB {lim lim2 : Nat} {h h' : AH} {elem : TypeId} {sz : Nat} {p : Option Addr} {n c : Nat} {cs : List Value} (g : Grow lim h elem sz p n c cs) (o : OldB lim2 h h') (hb : ∀ a, p = some a → a.block < lim2) : Grow lim h' elem sz p n c cs := by
  refine ⟨g.1, ?_⟩
  rcases g.2 with z | ⟨b', hp, h1, h2, h3, h4⟩
  · exact .inl z
  · exact .inr ⟨b', hp, h1, Nat.lt_of_lt_of_le h2 o.1, by rw [o.2 b' (hb _ hp)]; exact h3, h4⟩
theorem Mine.cell' {g : AH} {F : List Nat} {b i : Nat} {cs : List Value} {ty : TypeId} {v : Value} (w : Mine g F b cs ty) (hv : cs[i]? = some v) : ld1 g b i = some v := ld1_at w.1 hv
section
variable {K : Xs} {h : AH} {p : Nat} {F : List Nat} {d m : Nat} {W : Nat} {nw : List (List Nat)} {M : List Nat} {st : Nat} {ba : Int}
theorem treeGet (kk : KTree K) (kG : K 34 = none) (B : PO h p F d m W nw M st ba) {root : Tr3} {L1 : List Tr3} {L2 : Nat → List Tr3} (t : Tree nw M root L1 L2) {i : Nat} (hi : i < 64) {s : List Nat} (l : Lies nw M (blkP L2 i) s) :
    Wf Try.prog K 34 [.pointer (some ⟨p, 0, none⟩), qV root, .int .i64 (i : Nat)] h fun v h' => v = .tuple #[.agg (secC s).toArray, .int .i64 0] ∧ PO h' p F d m W nw M st ba ∧ Fr F h h' F ∧ Sec s := by
  have hsec : Sec s := by
    rcases l with ⟨-, rfl⟩ | l
    · exact sec_zero
    · exact l.2.2.2.2.2
  have hls := secC_len hsec
  obtain ⟨q2, hq2⟩ := t.get1 hi
  have hb := blkP_get t hi
  generalize blkP L2 i = b at hb l
  have hl2 := t.l2 (i / 8) (by omega)
  have h51 := way_len (b := b) t.l1 hl2
  refine vc_tree_Get kG _ _ _ _ _ h _ fun g0 e0 g1 e1 => (treeWithin kk i).mono ?_
  have o0 := old_of_alloc e0
  have n0 := next_of_alloc e0
  have o1 := old_of_alloc e1
  have B1 := (B.old o0).old o1
  have w0 := (own_new e0 B.lt).old o1
  have w1 := own_new e1 (B.old o0).lt
  have f1 : Fr F h g1 F := (o0.trans o1).fr F
  rintro _ _ ⟨rfl, rfl⟩
  refine .inl ⟨by rw [decide_eq_true ⟨by omega, by omega⟩], _, _, _, w0.ld rfl, (treeWalk kk B1 t hi hq2 hb).mono ?_⟩
  rintro _ g8 ⟨rfl, B8, f8⟩
  refine ⟨_, _, rfl, fun g11 e11 => ?_⟩
  obtain ⟨g12, k12, n12, o12, v12⟩ := put_new e11 (vs := ptr3 (L1 ++ L2 (i / 8) ++ [b])) (by rw [h51]; rfl)
  have w12 := v12 F B8.lt
  have B12 := B8.old o12
  have hll : (L1 ++ L2 (i / 8)).length = 16 := by rw [List.length_append, t.l1, hl2]
  have ld13 : ldN g12 g8.next 48 3 = some [.int .i64 (b.1 : Nat), .int .u64 (b.2.1 : Nat), .int .u32 (b.2.2 : Nat)] := by
    rw [show 48 = 16 * 3 from rfl, w12.ldp (by rw [h51]; decide), ptr3_at (q := b)]
    rw [List.getElem?_append_right (by omega), hll]
    rfl
  refine ⟨h51, g12, k12, fun _ => ⟨_, _, _, ld13, (get' kk B12 l).mono ?_⟩, fun z => absurd rfl z⟩
  rintro _ g17 ⟨rfl, B17, f17⟩
  have x17 := ((w1.fr f8).old o12).fr f17
  obtain ⟨g20, k20, nr20, w20⟩ := x17.put (vs := secC s) (by rw [hls]; simp)
  refine ⟨_, _, rfl, hls, g20, k20, _, w20.ld hls, rfl, B17.nearN nr20 x17.2.2, ?_, hsec⟩
  exact ((((f1.trans f8).trans (o12.fr F)).trans f17).near_new nr20 (by omega))
theorem refSameInts (hk : K 36 = none) {p q : Option Addr} {n m c c' : Nat} {A : List Nat} (hA : Shows h p n 1 (natC .i64 A)) (hB : Shows h q m 1 (natC .i64 A)) (hn : n ≤ 1000000) :
    Wf Try.prog K 36 [.slice p n c, .slice q m c'] h fun v h' => v = .bool true ∧ h = h' := by
  have hnA : n = A.length := by have := hA.1; rw [natC_len] at this; omega
  have hmA : m = A.length := by have := hB.1; rw [natC_len] at this; omega
  subst hnA
  subst hmA
  refine vc_aquiferref01_SameInts hk _ _ _ _ _ _ h _ ⟨fun e => ?_, fun e => absurd rfl e⟩
  refine ⟨fun i k g => ∃ j : Nat, i = j ∧ j ≤ A.length ∧ A.length - j = k ∧ h = g, ⟨_, 0, rfl, Nat.zero_le _, rfl, rfl⟩, ?_⟩
  rintro k g i ⟨j, rfl, hj, rfl, rfl⟩
  refine ⟨fun z => ?_, fun z => ⟨rfl, rfl⟩⟩
  have hjA : j < A.length := by omega
  obtain ⟨b1, off1, rfl, hld1⟩ := hA.get hjA
  obtain ⟨b2, off2, rfl, hld2⟩ := hB.get hjA
  rw [natC_get hjA] at hld1 hld2
  refine derefP_at ⟨by omega, z, _, by rw [Int.toNat_natCast, Nat.mul_one]; exact hld1, derefP_at ⟨by omega, z, _, by rw [Int.toNat_natCast, Nat.mul_one]; exact hld2, fun _ i11 e11 => ?_, fun y => absurd rfl y⟩⟩
  have e11 := i64w e11 (by omega) (by omega)
  exact ⟨_, by omega, j + 1, by rw [e11]; rfl, hjA, rfl, rfl⟩
/-- What holds of a tree, what is told of it, and of all trees that were. -/
structure TH (g0 : AH) (rb nb ib p d m at' j : Nat) (g : AH) (F : List Nat) (W : Nat) (nw : List (List Nat)) (M : List Nat) (root : Tr3) (L1 : List Tr3) (L2 : Nat → List Tr3) (now : List (List Nat)) (roots : List Tr3) (texts : List (List Nat)) : Prop where
  po : PO g p F d m W nw M 1 0
  w : W ≤ 3 * j
  cnt : 196 ≤ M.count 1 + 3 * j
  len : nw.length ≤ 1024
  tree : Tree nw M root L1 L2
  bi : BI 1 root L1 L2
  old : Old g0 g
  fresh : ∀ c ∈ F, g0.next ≤ c
  rt : Mine g F rb [.int .i64 (root.1 : Nat), .int .u64 (root.2.1 : Nat), .int .u32 (root.2.2 : Nat)] 28
  nt : Mine g F nb (secsC now) 58
  it : Mine g F ib (isC (isF L2)) 59
  ne : g0.next ≤ rb ∧ rb < nb ∧ nb < ib
  nl : now.length = 64
  ns : ∀ s ∈ now, Sec s
  nk : ∀ (k : Nat) s, now[k]? = some s → Lies nw M (blkP L2 k) s
  rl : roots.length = texts.length
  ro : ∀ q ∈ roots, QOk q
  ts : ∀ s ∈ texts, Sec s
  was : ∀ (i : Nat) q s, roots[i]? = some q → texts[i]? = some s → ∃ A B, Tree nw M q A B ∧ Lies nw M (blkP B at') s
theorem TH.fr {g0 g g' : AH} {rb nb ib p d m at' j : Nat} {F : List Nat} {W : Nat} {nw : List (List Nat)} {M : List Nat} {root : Tr3} {L1 : List Tr3} {L2 : Nat → List Tr3} {now : List (List Nat)} {roots : List Tr3} {texts : List (List Nat)} (t : TH g0 rb nb ib p d m at' j g F W nw M root L1 L2 now roots texts)
    (B : PO g' p F d m W nw M 1 0) (f : Fr F g g' F) : TH g0 rb nb ib p d m at' j g' F W nw M root L1 L2 now roots texts :=
  { t with po := B, old := (f.old t.old t.fresh).1, rt := t.rt.fr f, nt := t.nt.fr f, it := t.it.fr f }
theorem TH.keep1 {g0 g g' : AH} {rb nb ib p d m at' j : Nat} {F : List Nat} {W : Nat} {nw : List (List Nat)} {M : List Nat} {root : Tr3} {L1 : List Tr3} {L2 : Nat → List Tr3} {now : List (List Nat)} {roots : List Tr3} {texts : List (List Nat)} {pp : Option Addr} (t : TH g0 rb nb ib p d m at' j g F W nw M root L1 L2 now roots texts) (k : Keep1 pp g g')
    (ha : ∀ a, pp = some a → (a.block ∉ F ∧ a.block ∉ [rb, nb, ib]) ∧ g0.next ≤ a.block) : TH g0 rb nb ib p d m at' j g' F W nw M root L1 L2 now roots texts :=
  { t with
    po := t.po.keep1 k fun a e => (ha a e).1.1
    old := ⟨Nat.le_trans t.old.1 k.1, fun c hc => by rw [k.2 c (Nat.lt_of_lt_of_le hc t.old.1) (apart_of fun a e z => by have := (ha a e).2; omega), t.old.2 c hc]⟩
    rt := t.rt.keep1 k fun a e z => (ha a e).1.2 (by simp [z])
    nt := t.nt.keep1 k fun a e z => (ha a e).1.2 (by simp [z])
    it := t.it.keep1 k fun a e z => (ha a e).1.2 (by simp [z]) }
def THI (g0 : AH) (rb nb ib p d m at' na : Nat) (p22 : Option Addr) (n23 c24 : Nat) (p25 : Option Addr) (n26 c27 : Nat) (i : Int) (k : Nat) (g : AH) : Prop :=
  ∃ (j : Nat) (F : List Nat) (W : Nat) (nw : List (List Nat)) (M : List Nat) (root : Tr3) (L1 : List Tr3) (L2 : Nat → List Tr3) (now : List (List Nat)) (roots : List Tr3) (texts : List (List Nat)), i = j ∧ j ≤ na ∧ na - j = k ∧ TH g0 rb nb ib p d m at' j g F W nw M root L1 L2 now roots texts ∧
    Grow g0.next g 28 3 p22 n23 c24 (ptr3 roots) ∧ Grow g0.next g 57 128 p25 n26 c27 (secsC texts) ∧ Away p22 F [rb, nb, ib] ∧ Away p25 F [rb, nb, ib] ∧ (∀ a b, p22 = some a → p25 = some b → a.block ≠ b.block) ∧ n23 ≤ j
theorem THI.step {g0 : AH} {rb nb ib p d m at' na : Nat} {p22 : Option Addr} {n23 c24 : Nat} {p25 : Option Addr} {n26 c27 j : Nat} {g : AH} {F : List Nat} {W : Nat} {nw : List (List Nat)} {M : List Nat} {root : Tr3} {L1 : List Tr3} {L2 : Nat → List Tr3} {now : List (List Nat)} {roots : List Tr3} {texts : List (List Nat)} (t : TH g0 rb nb ib p d m at' j g F W nw M root L1 L2 now roots texts) (hj : j < na)
    (G1 : Grow g0.next g 28 3 p22 n23 c24 (ptr3 roots)) (G2 : Grow g0.next g 57 128 p25 n26 c27 (secsC texts)) (A1 : Away p22 F [rb, nb, ib]) (A2 : Away p25 F [rb, nb, ib]) (A3 : ∀ a b, p22 = some a → p25 = some b → a.block ≠ b.block) (hn : n23 ≤ j) (ha40 : ¬ (40 : Int) < ((na : Nat) : Int)) :
    ∀ i39 : Int, i39 = IntKind.wrap .i64 ((j : Int) + 1) → ∃ j21, j21 < na - j ∧ THI g0 rb nb ib p d m at' na p22 n23 c24 p25 n26 c27 i39 j21 g := by
  intro i39 e39
  have e39 := i64w e39 (by omega) (by omega)
  exact ⟨_, by omega, j + 1, F, W, nw, M, root, L1, L2, now, roots, texts, by rw [e39]; rfl, hj, rfl, { t with w := by have := t.w; omega, cnt := by have := t.cnt; omega }, G1, G2, A1, A2, A3, by omega⟩
set_option maxHeartbeats 4000000 in
theorem holdsTrue (hk : K 6 = none) (ha : K 29 = some (.sum xTrue)) (k1 : K 30 = none) (k2 : K 55 = none) (k3 : K 56 = none) (k4 : K 54 = none)
    (kk : KTree K) (kS : K 32 = none) (kT : K 31 = none) (kB : K 35 = none) (kG : K 34 = none) (kBl : K 33 = none) (kSame : K 36 = none)
    {h : AH} {pa : Option Addr} {na ca : Nat} {acts : List Act3} (T : Acts h pa na acts) (ati : Int) :
    Wf Try.prog K 6 [.slice pa na ca, .int .i64 ati] h fun v _ => v = .bool true := by
  refine vc_aquiferlaw11_TreeHolds hk _ _ _ _ h _ (Wf_sum ha (v := .bool true) (h' := h) rfl (Nat.le_refl _) (.inl ⟨rfl, fun _ => rfl, fun q1 => ⟨fun _ => rfl, fun q2 => ⟨fun _ => rfl, fun q3 => ?_⟩⟩⟩))
  obtain ⟨at', rfl⟩ : ∃ at' : Nat, ati = at' := ⟨ati.toNat, by omega⟩
  have hat : at' < 64 := by omega
  refine (made k1 k2 k3 k4 kk.mSet 200 (by decide) h).mono ?_
  rintro _ g3 ⟨p, F0, d, m, Fd0, rfl, P3, o3, hF3⟩
  refine ⟨_, rfl, fun g5 e5 => ?_⟩
  obtain ⟨g6, k6, n6, o6, v6⟩ := put_new e5 (vs := [.int .i64 0, .int .u64 0, .int .u32 0]) rfl
  have B3 : PO g3 p F0 d m 0 (List.replicate 200 (List.replicate 128 0)) (newM 200) 1 0 := ⟨Fd0, P3⟩
  have B6 := B3.old o6
  refine ⟨rfl, g6, k6, _, zNow, fun g8 e8 => ?_⟩
  obtain ⟨g9, k9, n9, o9, v9⟩ := put_new e8 (vs := List.replicate 8192 (Value.int .u8 0)) (by simp)
  have B9 := B6.old o9
  refine ⟨by simp, g9, k9, _, zIs, fun g11 e11 => ?_⟩
  obtain ⟨g12, k12, n12, o12, v12⟩ := put_new e11 (vs := List.replicate 64 (Value.bool false)) (by simp)
  have B12 := B9.old o12
  refine ⟨by simp, g12, k12, fun g13 e13 => ⟨_, _, _, _, secs0 g13, ?_⟩⟩
  have o13 := old_of_alloc e13
  have n13 := next_of_alloc e13
  have B13 := B12.old o13
  have o17 : Old g13 (g13.alloc (.cells [] 57 false)) := Old_alloc _ _
  have G17 : Grow h.next (g13.alloc (.cells [] 57 false)) 57 128 (some ⟨g13.next, 0, none⟩) 0 0 (secsC []) := Grow.lit rfl rfl (by have := o3.1; have := o6.1; have := o9.1; have := o12.1; omega)
  generalize g13.alloc (.cells [] 57 false) = g17 at o17 G17
  have l3 := o3.1
  refine ⟨THI h g3.next g6.next g9.next p d m at' na, ⟨na, 0, F0, 0, _, _, hole, holes, fun _ => holes, List.replicate 64 (List.replicate 128 0), [], [], rfl, Nat.zero_le _, rfl,
    ⟨B13.old o17, Nat.le_refl _, by rw [new200h]; decide, by simp, tree_none _ _, bi_none _, ((((o3.trans o6).trans o9).trans o12).trans o13).trans o17, hF3, ((((v6 F0 B3.lt).old o9).old o12).old o13).old o17, by rw [← secsC_zero]; exact (((v9 F0 B6.lt).old o12).old o13).old o17, by rw [isF_none]; exact ((v12 F0 B9.lt).old o13).old o17, ⟨l3, by omega, by omega⟩, by simp, fun s hs => by rw [(List.mem_replicate.1 hs).2]; exact sec_zero, fun k s hs => ?_, rfl, (fun q hq => by cases hq), (fun q hq => by cases hq), fun i q s hq => by simp at hq⟩,
    (Grow.lit (lim := h.next) e13 rfl (by omega)).old o17, G17, fun a e => ?_, fun a e => ?_, fun a b e1 e2 => ?_, Nat.le_refl _⟩, ?_⟩
  · rw [List.getElem?_replicate] at hs
    split at hs
    · cases hs
      refine .inl ⟨?_, rfl⟩
      unfold blkP
      rw [List.getElem?_replicate, if_pos (by omega)]
      rfl
    · cases hs
  · cases e
    refine ⟨fun z => absurd (B12.lt _ z) (Nat.lt_irrefl _), fun z => ?_⟩
    simp only [List.mem_cons, List.not_mem_nil, or_false] at z
    omega
  · cases e
    refine ⟨fun z => absurd (B13.lt _ z) (Nat.lt_irrefl _), fun z => ?_⟩
    simp only [List.mem_cons, List.not_mem_nil, or_false] at z
    omega
  · cases e1
    cases e2
    show g12.next ≠ g13.next
    omega
  rintro k19 g20 p22 n23 c24 p25 n26 c27 i28 ⟨j, F, W, nw, M, root, L1, L2, now, roots, texts, rfl, hj, rfl, S20, GR, GT, AR, AT, ART, hn23⟩
  obtain ⟨ne1, ne2, ne3⟩ := S20.ne
  refine ⟨fun q5 => ?_, fun q5 => ?_⟩
  · have hjn : j < na := by omega
    obtain ⟨bb, off, rfl, hja, p33, n34, c35, hld, tx⟩ := T.at2 S20.old hjn
    generalize acts[j] = act at hld tx
    obtain ⟨kd, nn, data⟩ := act
    simp only at hld tx
    refine derefP_at ⟨by omega, q5, _, _, _, _, _, by rw [Int.toNat_natCast]; exact hld, fun g36 e36 => ?_⟩
    obtain ⟨g37, k37, n37, o37, v37⟩ := put_new e36 (vs := [.int .i64 kd, .int .i64 nn, .slice p33 n34 c35]) rfl
    have w37 := v37 F S20.po.lt
    have S37 := S20.fr (S20.po.old o37) (o37.fr F)
    have GR37 := GR.old o37
    have GT37 := GT.old o37
    have skip := S37.tree
    have nxt := THI.step S37 hjn GR37 GT37 AR AT ART hn23 q1
    refine ⟨rfl, g37, k37, _, w37.cell rfl, fun _ => nxt, fun z1 => ⟨_, w37.cell rfl, fun _ => nxt, fun z2 => ⟨_, _, _, w37.cell rfl, fun _ => nxt, fun z3 => ⟨_, w37.cell rfl, ?_⟩⟩⟩⟩
    clear nxt skip
    obtain ⟨x, rfl⟩ : ∃ x : Nat, nn = x := ⟨nn.toNat, by omega⟩
    have hx : x < 64 := by omega
    have hdl : data.length ≤ 128 := by have := tx.2.1; omega
    have hl2 := S37.tree.l2 (x / 8) (by omega)
    -- what is left to do behind a change
    have tail : ∀ (g65 : AH) (F' : List Nat) (W' : Nat) (nw' : List (List Nat)) (M' : List Nat) (q : Tr3) (L1' : List Tr3) (L2' : Nat → List Tr3) (now' : List (List Nat)), TH h g3.next g6.next g9.next p d m at' (j + 1) g65 F' W' nw' M' q L1' L2' now' roots texts →
        Grow h.next g65 28 3 p22 n23 c24 (ptr3 roots) → Grow h.next g65 57 128 p25 n26 c27 (secsC texts) → Away p22 F' [g3.next, g6.next, g9.next] → Away p25 F' [g3.next, g6.next, g9.next] →
        ∃ i66 : Int, ∃ i67 : Int, ∃ i68 : Int, ldN g65 g3.next 0 3 = some ([(.int .i64 i66), (.int .u64 i67), (.int .u32 i68)] : List Value) ∧
          (∀ h69 : AH, h69 = g65.alloc (.cells ([(.int .i64 i66), (.int .u64 i67), (.int .u32 i68)] : List Value) 28 false) →
          ∃ (p70 : Option Addr) (n71 c72 : Nat) (h73 : AH), aBuiltin Try.prog h69 .append #[29, 29] [(.slice p22 n23 c24), (.slice (some ⟨g65.next, 0, none⟩) 1 1)] = some (.slice p70 n71 c72, h73) ∧
          (((0 : Int) ≤ (at' : Nat)) ∧ (((at' : Nat) : Int) < 64) ∧
          (∃ l74 : List Value, ldN h73 g6.next (0 + Int.toNat ((at' : Nat) : Int) * 128) 128 = some l74 ∧
          (∃ (p75 : Option Addr) (n76 c77 : Nat) (h78 : AH), aBuildSlice Try.prog h73 60 1 #[(0, (.agg l74.toArray))] = some (.slice p75 n76 c77, h78) ∧
          (∃ (p79 : Option Addr) (n80 c81 : Nat) (h82 : AH), aBuiltin Try.prog h78 .append #[60, 60] [(.slice p25 n26 c27), (.slice p75 n76 c77)] = some (.slice p79 n80 c81, h82) ∧
          (∀ i83 : Int, i83 = IntKind.wrap .i64 ((j : Int) + 1) → ∃ j21, j21 < na - j ∧ THI h g3.next g6.next g9.next p d m at' na p70 n71 c72 p79 n80 c81 i83 j21 h82)))))) := by
      intro g65 F' W' nw' M' q L1' L2' now' S65 GR65 GT65 AR65 AT65
      refine ⟨_, _, _, S65.rt.ld rfl, fun g69 e69 => ?_⟩
      have o69 := old_of_alloc e69
      have n69 := next_of_alloc e69
      have hrl := S65.rl
      have hn26 : n26 = n23 := by
        have h1 := GR65.1
        have h2 := GT65.1
        rw [ptr3_len] at h1
        rw [secsC_len S65.ts] at h2
        omega
      have S69 := S65.fr (S65.po.old o69) (o69.fr F')
      have Sq : Shows g69 (some ⟨g65.next, 0, none⟩) 1 3 (ptr3 [q]) := ⟨rfl, .inr ⟨_, 0, _, _, _, rfl, by rw [n69]; omega, get_of_alloc e69, Nat.le_refl 3, rfl⟩⟩
      obtain ⟨p70, c72, g73, k73, GR73, kp73, wh73⟩ := pushOld (cx := 1) (GR65.old o69) S69.old.1 Sq (.inr ⟨_, _, rfl⟩) (by omega)
      have S73 := S69.keep1 kp73 (fun a e => ⟨AR65 a e, (GR65.block e).1⟩)
      have GT73 := (GT65.old o69).keep1 kp73 (fun a b e1 e2 => ART b a e2 e1)
      have hna : at' < now'.length := by rw [S65.nl]; exact hat
      have hsa := S65.ns _ (List.getElem_mem hna)
      have hae : now'[at']? = some now'[at'] := List.getElem?_eq_getElem hna
      have hsg := secsC_get S65.ns hna
      generalize now'[at'] = sa at hsa hae hsg
      have ld74 : ldN g73 g6.next (0 + Int.toNat ((at' : Nat) : Int) * 128) 128 = some (secC sa) := by
        rw [Int.toNat_natCast, Nat.zero_add, S73.nt.ldp (by rw [secsC_len S73.ns, S65.nl]; omega), hsg]
      have bs := buildSlice_one (h := g73) eSec zeroSec (by simp) (by decide) (secC_len hsa)
      refine ⟨p70, _, c72, g73, k73, by omega, by omega, _, ld74, _, _, _, _, bs, ?_⟩
      have o78 : Old g73 (g73.alloc (.cells (secC sa) 57 false)) := Old_alloc _ _
      have n78 : (g73.alloc (.cells (secC sa) 57 false)).next = g73.next + 1 := rfl
      have S78 := S73.fr (S73.po.old o78) (o78.fr F')
      obtain ⟨p79, c81, g82, k82, GT82, ob82, ap82, -⟩ := GT73.push eSec S73.old.1 (m := 1) (ns := secC sa) rfl (by rw [secC_len hsa]) (by unfold roomMax; omega) (by omega)
      have wh82 := append_where eSec.1 k82
      have kp82 : Keep1 p25 g73 g82 := ⟨ob82.1, ap82⟩
      have S82 := S73.keep1 kp82 (fun a e => ⟨AT65 a e, (GT65.block e).1⟩)
      have hb22 : ∀ a, p22 = some a → a.block < g73.next := fun a e => by have := (GR65.block e).2; have := kp73.1; omega
      have hb25 : ∀ a, p25 = some a → a.block < g65.next := fun a e => (GT65.block e).2
      have A70 : Away p70 F' [g3.next, g6.next, g9.next] := fun a e => by
        rcases wh73 with z | ⟨b, z, hb⟩
        · exact AR65 a (by rw [← z]; exact e)
        · rw [z] at e
          cases e
          have h1 := S65.rt.2.1
          have h2 := S65.nt.2.1
          have h3 := S65.it.2.1
          exact ⟨fun y => absurd (S65.po.lt _ y) (by simp only; omega), fun y => by simp only [List.mem_cons, List.not_mem_nil, or_false] at y; omega⟩
      have A79 : Away p79 F' [g3.next, g6.next, g9.next] := fun a e => by
        rcases wh82 with z | ⟨b, z, hb⟩
        · exact AT65 a (by rw [← z]; exact e)
        · rw [z] at e
          cases e
          have h1 := S73.rt.2.1
          have h2 := S73.nt.2.1
          have h3 := S73.it.2.1
          rw [n78] at hb
          exact ⟨fun y => absurd (S73.po.lt _ y) (by simp only; omega), fun y => by simp only [List.mem_cons, List.not_mem_nil, or_false] at y; omega⟩
      have ARq : ∀ a b, p70 = some a → p79 = some b → a.block ≠ b.block := fun a b e1 e2 => by
        rcases wh82 with z | ⟨b', z, hb⟩
        · rcases wh73 with y | ⟨b'', y, hb'⟩
          · exact ART a b (by rw [← y]; exact e1) (by rw [← z]; exact e2)
          · rw [y] at e1
            cases e1
            have := hb25 b (by rw [← z]; exact e2)
            simp only
            omega
        · rw [z] at e2
          cases e2
          have := (GR73.block e1).2
          rw [n78] at hb
          simp only
          omega
      have GR82 := GR73.keep1 kp82 (fun a b e1 e2 => by
        rcases wh73 with y | ⟨b'', y, hb'⟩
        · exact fun z => ART a b (by rw [← y]; exact e1) e2 z.symm
        · rw [y] at e1
          cases e1
          have := hb25 b e2
          simp only
          omega)
      refine ⟨p79, _, c81, g82, k82, fun i83 e83 => ?_⟩
      have e83 := i64w e83 (by omega) (by omega)
      rw [← secsC_one sa, ← secsC_app] at GT82
      refine ⟨_, by omega, j + 1, F', W', nw', M', q, L1', L2', now', roots ++ [q], texts ++ [sa], by rw [e83]; rfl, hjn, rfl,
        { S82 with rl := by simp [hrl], ro := fun y hy => (List.mem_append.1 hy).elim (S82.ro y) (fun z => by rw [List.mem_singleton.1 z]; exact S82.tree.at1.ok), ts := fun y hy => (List.mem_append.1 hy).elim (S82.ts y) (fun z => by rw [List.mem_singleton.1 z]; exact hsa), was := fun i y s h1 h2 => ?_ }, GR82, GT82, A70, A79, ARq, by omega⟩
      rw [List.getElem?_append] at h1 h2
      split at h1
      · rename_i z
        rw [if_pos (by omega)] at h2
        exact S82.was i y s h1 h2
      · rename_i z
        rw [if_neg (by omega)] at h2
        have hi0 : i - roots.length = 0 := by
          have := (List.getElem?_eq_some_iff.1 h1).1
          simp at this
          omega
        rw [hi0] at h1
        rw [show i - texts.length = 0 by omega] at h2
        simp at h1 h2
        subst h1 h2
        exact ⟨L1', L2', S82.tree, S82.nk at' _ hae⟩
    -- the sector told, and its mark
    have mid : ∀ (g52 : AH) (F' : List Nat) (W' : Nat) (nw' : List (List Nat)) (M' : List Nat) (q : Tr3) (L1' : List Tr3) (c : Tr3) (s : List Nat), PO g52 p F' d m W' nw' M' ((1 : Nat)) 0 → Fr F g37 g52 F' → W' ≤ W + 3 → M.count 1 ≤ M'.count 1 + 3 → nw'.length = nw.length → Tree nw' M' q L1' (upd2 L2 (x / 8) ((L2 (x / 8)).set (x % 8) c)) → BI 1 q L1' (upd2 L2 (x / 8) ((L2 (x / 8)).set (x % 8) c)) →
        Stay nw M nw' M' → Lies nw' M' c s → Sec s →
        ∃ g60, stN g52 g3.next 0 [.int .i64 (q.1 : Nat), .int .u64 (q.2.1 : Nat), .int .u32 (q.2.2 : Nat)] = some g60 ∧ Near g3.next g52 g60 ∧ Old h g60 ∧ ∀ g61, Old g60 g61 →
          ∃ g63, stN g61 g6.next (0 + Int.toNat ((x : Nat) : Int) * 128) (secC s) = some g63 ∧ Near g6.next g61 g63 ∧
          ∃ g65, st1 g63 g9.next (0 + Int.toNat ((x : Nat) : Int) * 1) (.bool (decide (c ≠ hole))) = some g65 ∧ TH h g3.next g6.next g9.next p d m at' (j + 1) g65 F' W' nw' M' q L1' (upd2 L2 (x / 8) ((L2 (x / 8)).set (x % 8) c)) (now.set x s) roots texts ∧
          Grow h.next g65 28 3 p22 n23 c24 (ptr3 roots) ∧ Grow h.next g65 57 128 p25 n26 c27 (secsC texts) ∧ Away p22 F' [g3.next, g6.next, g9.next] ∧ Away p25 F' [g3.next, g6.next, g9.next] := by
      intro g52 F' W' nw' M' q L1' c s B52 f52 hW hM hN t52 b52 x52 lc hs
      obtain ⟨oo52, hF52⟩ := f52.old S37.old S37.fresh
      have r52 := S37.rt.fr f52
      obtain ⟨g60, k60, nr60, w60⟩ := r52.put (vs := [.int .i64 (q.1 : Nat), .int .u64 (q.2.1 : Nat), .int .u32 (q.2.2 : Nat)]) rfl
      have B60 := B52.nearN nr60 r52.2.2
      refine ⟨g60, k60, nr60, oo52.near nr60 S37.ne.1, fun g61 o61 => ?_⟩
      have nt61 := ((S37.nt.fr f52).near nr60 (by omega)).old o61
      have it61 := ((S37.it.fr f52).near nr60 (by omega)).old o61
      have rt61 := w60.old o61
      have hxn : x < now.length := by rw [S37.nl]; exact hx
      obtain ⟨g63, k63, nr63, nt63⟩ := nt61.part (off := x * 128) (vs := secC s) (by rw [secC_len hs, secsC_len S37.ns, S37.nl]; omega)
      rw [secC_len hs, secsC_set S37.ns hxn hs] at nt63
      have it63 := it61.near nr63 (by omega)
      have rt63 := rt61.near nr63 (by omega)
      have nr65 := near_set g9.next g63 (.cells ((isC (isF L2)).set x (.bool (decide (c ≠ hole)))) 59 false)
      have hfx : isF (upd2 L2 (x / 8) ((L2 (x / 8)).set (x % 8) c)) x = decide (c ≠ hole) := by unfold isF; rw [blkP_upd' hl2, if_pos rfl]
      have hfo : ∀ y, y ≠ x → isF (upd2 L2 (x / 8) ((L2 (x / 8)).set (x % 8) c)) y = isF L2 y := fun y hy => by unfold isF; rw [blkP_upd' hl2, if_neg hy]
      have B61 := (B52.nearN nr60 r52.2.2).old o61
      have hpR : Away p22 F' [g3.next, g6.next, g9.next] := fun a e => ⟨fun z => (f52.2.2 _ z).elim (AR a e).1 (fun y => by have := (GR37.block e).2; omega), (AR a e).2⟩
      have hpT : Away p25 F' [g3.next, g6.next, g9.next] := fun a e => ⟨fun z => (f52.2.2 _ z).elim (AT a e).1 (fun y => by have := (GT37.block e).2; omega), (AT a e).2⟩
      have nR : ∀ a, p22 = some a → a.block ≠ g3.next ∧ a.block ≠ g6.next ∧ a.block ≠ g9.next := fun a e => by have := (AR a e).2; simp only [List.mem_cons, List.not_mem_nil, or_false] at this; omega
      have nT : ∀ a, p25 = some a → a.block ≠ g3.next ∧ a.block ≠ g6.next ∧ a.block ≠ g9.next := fun a e => by have := (AT a e).2; simp only [List.mem_cons, List.not_mem_nil, or_false] at this; omega
      refine ⟨g63, by rw [Int.toNat_natCast, Nat.zero_add]; exact k63, nr63, _, by rw [Int.toNat_natCast, Nat.zero_add, Nat.mul_one]; exact st1_of it63.1 (by rw [isC_len]; exact hx), ?_, ?_, ?_, hpR, hpT⟩
      · refine ⟨(B61.nearN nr63 nt61.2.2).nearN nr65 it63.2.2, by have := S37.w; omega, by have := S37.cnt; omega, by rw [hN]; exact S37.len, t52, b52, (((oo52.near nr60 S37.ne.1).trans o61).near nr63 (by omega)).near nr65 (by omega), hF52, rt63.near nr65 (by omega), nt63.near nr65 (by omega), ?_, S37.ne, by rw [List.length_set]; exact S37.nl, fun y hy => (List.mem_or_eq_of_mem_set hy).elim (S37.ns y) (fun e => by rw [e]; exact hs), fun k y hy => ?_, S37.rl, S37.ro, S37.ts, fun i q' s' h1 h2 => ?_⟩
        · refine ⟨?_, by rw [nr65.1]; exact it63.2.1, it63.2.2⟩
          rw [get_set_self, isC_set hfx hfo]
        · rw [blkP_upd' hl2]
          rw [List.getElem?_set] at hy
          by_cases e : k = x
          · subst e
            rw [if_pos rfl, if_pos hxn] at hy
            rw [if_pos rfl]
            cases hy
            exact lc
          · rw [if_neg (fun z => e z.symm)] at hy
            rw [if_neg e]
            exact (S37.nk k y hy).ext x52
        · obtain ⟨A, B, tt, ll⟩ := S37.was i q' s' h1 h2
          exact ⟨A, B, tt.ext x52, ll.ext x52⟩
      · exact ((((GR37.frN f52 (fun a e => (AR a e).1)).nearN nr60 (fun a e => (nR a e).1)).old o61).nearN nr63 (fun a e => (nR a e).2.1)).nearN nr65 (fun a e => (nR a e).2.2)
      · exact ((((GT37.frN f52 (fun a e => (AT a e).1)).nearN nr60 (fun a e => (nT a e).1)).old o61).nearN nr63 (fun a e => (nT a e).2.1)).nearN nr65 (fun a e => (nT a e).2.2)
    have l37 : g9.next < g20.next := S20.it.2.1
    refine ⟨fun _ => ?_, fun _ g84 e84 => ?_⟩
    · -- trimmed
      refine ⟨_, _, _, S37.rt.ld rfl, _, w37.cell rfl, ?_⟩
      refine (treeTrim kk kT S37.po (by have := S37.w; omega) ⟨by decide, by decide⟩ S37.len S37.tree (x : Nat) (by have := S37.cnt; omega)).mono ?_
      rintro v g52 hv
      obtain ⟨q, pr, nr, cr, F', W', nw', M', L1', rfl, B52, f52, hW, hM, hN, t52, b52, x52⟩ : ∃ (q : Tr3) (pr : Option Addr) (nr cr : Nat) (F' : List Nat) (W' : Nat) (nw' : List (List Nat)) (M' : List Nat) (L1' : List Tr3), v = .tuple #[qV q, .slice pr nr cr, .int .i64 0] ∧ PO g52 p F' d m W' nw' M' ((1 : Nat)) 0 ∧ Fr F g37 g52 F' ∧ W' ≤ W + 3 ∧ M.count 1 ≤ M'.count 1 + 3 ∧ nw'.length = nw.length ∧ Tree nw' M' q L1' (upd2 L2 (x / 8) ((L2 (x / 8)).set (x % 8) hole)) ∧ BI 1 q L1' (upd2 L2 (x / 8) ((L2 (x / 8)).set (x % 8) hole)) ∧ Stay nw M nw' M' := by
        rcases hv with ⟨e, he, rfl, B52, f52⟩ | ⟨i, q2, b, q2', q3, nw1, M1, nw2, M2, F', W', pr, nr, cr, hix, hi, hq2, hb, -, rfl, p2, p3, hW', B52, f52, G52, -⟩
        · rcases he with ⟨z, -⟩ | ⟨i, hix, hi, hb, rfl⟩
          · exact absurd ⟨by omega, by omega⟩ z
          · obtain rfl : x = i := by omega
            exact ⟨root, none, 0, 0, F, W, nw, M, L1, rfl, B52, f52, by omega, by omega, rfl, by rw [upd2_same hb]; exact S37.tree, by rw [upd2_same hb]; exact S37.bi, Stay.refl _ _⟩
        · obtain rfl : x = i := by omega
          have t' := S37.tree.upd (c := hole) hi (Stay.refl nw M) S37.len ⟨by decide, by decide⟩ hole_ok p2 p3
          have b' := S37.bi.upd (c := hole) (Nat.zero_le _) hq2 p2 p3
          have c2 := p2.nh
          have c3 := p3.nh
          have hq21 : nh [q2'] ≤ 1 := by unfold nh cq; exact Nat.le_trans List.countP_le_length (Nat.le_refl 1)
          have hq31 : nh [q3] ≤ 1 := by unfold nh cq; exact Nat.le_trans List.countP_le_length (Nat.le_refl 1)
          exact ⟨q3, pr, nr, cr, F', W', nw2, M2, _, rfl, B52, f52, by omega, by omega, by rw [p3.len, p2.len], t', b', p2.ext.trans p3.ext⟩
      obtain ⟨g60, k60, nr60, oo60, rest⟩ := mid g52 F' W' nw' M' q L1' hole (List.replicate 128 0) B52 f52 hW hM hN t52 b52 x52 (.inl ⟨rfl, rfl⟩) sec_zero
      obtain ⟨g63, k63, nr63, g65, k65, S65, GR65, GT65, AR65, AT65⟩ := rest g60 (Old.refl _)
      have w60 := (w37.fr f52).near nr60 (by omega)
      have w63 := w60.near nr63 (by omega)
      exact ⟨_, _, _, _, _, _, _, rfl, rfl, g60, k60, _, w60.cell rfl, _, zSec, by omega, by omega, by simp, g63, by rw [secC_zero]; exact k63, _, w63.cell rfl, by omega, by omega, g65, k65, fun _ => tail g65 F' W' nw' M' q L1' _ _ S65 GR65 GT65 AR65 AT65, fun z => absurd rfl z⟩
    · -- set
      obtain ⟨p88, c90, g91, k91, o91, S91, form91, blk91⟩ := copyText (c := c35) tx S37.old e84
      have w84 := w37.old (old_of_alloc e84)
      have w91 := w37.old o91
      have T91 := S37.fr (S37.po.old o91) (o91.fr F)
      have r84 := S37.rt.old (old_of_alloc e84)
      refine ⟨_, _, _, w84.cell rfl, p88, _, c90, g91, k91, _, _, _, T91.rt.ld rfl, _, w91.cell rfl, ?_⟩
      have hda : ∀ a, p88 = some a → a.block ∉ F := fun y e z => absurd (S37.po.lt _ z) (Nat.not_lt.2 (blk91 y e))
      refine (treeSet kk kS T91.po (by have := T91.w; omega) ⟨by decide, by decide⟩ T91.len T91.tree (x : Nat) S91 form91 hda tx.2.2.2.2 (by have := T91.cnt; omega)).mono ?_
      rintro v g97 (⟨e, -, he, -⟩ | ⟨i, q0, b0, q1', q2', q3', nw1, M1, nw2, M2, nw3, M3, F', pr, nr, cr, hix, hi, -, hq0, hb0, rfl, p1, p2, p3, B97, f97, G97, -⟩)
      · rcases he with z | z
        · exact absurd ⟨by omega, by omega⟩ z
        · omega
      obtain rfl : x = i := by omega
      have hsb := blk_sec hdl tx.2.2.2.2
      obtain ⟨t1, t2, t3, t4, t5, y2, y3, hne, ly⟩ := set_step T91.tree T91.bi hi ⟨by decide, by decide⟩ T91.len hq0 hsb p1 p2 p3
      obtain ⟨g105, k105, nr105, oo105, rest⟩ := mid g97 F' (W + 3) nw3 M3 q3' _ q1' (blkOf data) B97 ((o91.fr F).trans f97) (by omega) (by omega) t3 t1 t2 t5 ((ly.ext y2.ext).ext y3.ext) hsb
      have w105 := (w91.fr f97).near nr105 (by omega)
      refine ⟨_, _, _, _, _, _, _, rfl, rfl, g105, k105, r84.ld rfl, T91.rt.ld rfl, w84.cell rfl, w91.cell rfl, _, _, _, w105.cell rfl, (refBlock kBl (tx.old oo105).2.2.2.1).mono ?_⟩
      rintro _ g110 ⟨rfl, o110⟩
      rw [List.take_of_length_le hdl]
      obtain ⟨g113, k113, nr113, g115, k115, S115, GR115, GT115, AR115, AT115⟩ := rest g110 o110
      have w110 := w105.old o110
      have w113 := w110.near nr113 (by omega)
      have hdn : decide (q1' ≠ hole) = true := decide_eq_true hne
      rw [hdn] at k115
      exact ⟨_, rfl, _, w110.cell rfl, by omega, by omega, secC_len hsb, g113, k113, w105.cell rfl, w110.cell rfl, _, w113.cell rfl, by omega, by omega, g115, k115, fun _ => tail g115 F' _ nw3 M3 q3' _ _ _ S115 GR115 GT115 AR115 AT115, fun z => absurd rfl z⟩
  · -- what is had
    have hn26 : n26 = n23 := by
      have h1 := GR.1
      have h2 := GT.1
      rw [ptr3_len] at h1
      rw [secsC_len S20.ts] at h2
      have := S20.rl
      omega
    have hrn : roots.length = n23 := by have h1 := GR.1; rw [ptr3_len] at h1; omega
    refine ⟨fun i k g => ∃ u : Nat, i = u ∧ u ≤ n23 ∧ n23 - u = k ∧ PO g p F d m W nw M ((1 : Nat)) 0 ∧ Fr F g20 g F, ⟨_, 0, rfl, Nat.zero_le _, rfl, S20.po, Fr.refl _ _⟩, ?_⟩
    rintro k135 g136 i138 ⟨u, rfl, hu, rfl, B136, f136⟩
    have S136 := S20.fr B136 f136
    have GR136 := GR.frN f136 (fun a e => (AR a e).1)
    refine ⟨fun z => ?_, fun z => ?_⟩
    · have hun : u < n23 := by omega
      have hur : u < roots.length := by omega
      have hut : u < texts.length := by have := S20.rl; omega
      obtain ⟨b139, o140, rfl, hld, -⟩ := GR136.shows.getN hun
      rw [ptr3_get roots u hur] at hld
      obtain ⟨A, Bt, tA, lA⟩ := S136.was u _ _ (List.getElem?_eq_getElem hur) (List.getElem?_eq_getElem hut)
      have hsg := secsC_get S20.ts hut
      generalize roots[u] = q at hld tA
      generalize texts[u] = s at lA hsg
      refine derefP_at ⟨by omega, z, _, _, _, by rw [Int.toNat_natCast]; exact hld, (treeGet kk kG B136 tA hat lA).mono ?_⟩
      rintro _ g145 ⟨rfl, B145, f145, hss⟩
      refine ⟨_, _, rfl, fun g148 e148 => ?_⟩
      obtain ⟨g149, k149, n149, o149, v149⟩ := put_new e148 (vs := secC s) (by rw [secC_len hss]; simp)
      have w149 := v149 F B145.lt
      have f149 := (f136.trans f145).trans (o149.fr F)
      have GT149 := GT.frN f149 (fun a e => (AT a e).1)
      obtain ⟨b151, o152, rfl, hld2, -⟩ := GT149.shows.getN (i := u) (by omega)
      rw [hsg] at hld2
      have ks := kSec hss
      refine ⟨secC_len hss, g149, k149, fun _ => ⟨_, w149.ld (secC_len hss), derefP_at ⟨by omega, by omega, _, by rw [Int.toNat_natCast]; exact hld2, _, _, ks, ks, fun _ i156 e156 => ?_, fun y => ?_⟩⟩, fun z => absurd rfl z⟩
      · have e156 := i64w e156 (by omega) (by omega)
        exact ⟨_, by omega, u + 1, by rw [e156]; rfl, hun, rfl, B145.old o149, f149⟩
      · rw [lits_sec] at y
        simp at y
    · refine ⟨_, _, _, S136.rt.ld rfl, (treeBlocks kk kB B136 S136.tree).mono ?_⟩
      rintro _ g161 ⟨p162, n163, c164, rfl, B161, f161, G161⟩
      refine ⟨_, _, _, _, rfl, fun g166 e166 => ?_⟩
      have o166 := old_of_alloc e166
      have hF20 := S20.po.lt
      have hF136 := B136.lt
      have hb162 : ∀ a, p162 = some a → a.block < g161.next := fun a e => (G161.block e).2
      have hn163 : n163 = (blL L2 64).length := by have := G161.1; rw [natC_len] at this; omega
      have hbl := blL_len L2 64
      refine ⟨fun pp n c i k g => ∃ u : Nat, i = u ∧ u ≤ 64 ∧ 64 - u = k ∧ PO g p F d m W nw M ((1 : Nat)) 0 ∧ Fr F g20 g F ∧ Grow g136.next g 3 1 p162 n163 c164 (natC .i64 (blL L2 64)) ∧ Grow g161.next g 3 1 pp n c (natC .i64 (blL L2 u)) ∧ g161.next ≤ g.next, ⟨_, 0, rfl, Nat.zero_le _, rfl, B161.old o166, (f136.trans f161).trans (o166.fr F), G161.old o166, Grow.lit e166 rfl (Nat.le_refl _), o166.1⟩, ?_⟩
      rintro k168 g169 p171 n172 c173 i174 ⟨w, rfl, hw, rfl, B169, f169, G169, W169, l169⟩
      have S169 := S20.fr B169 f169
      refine ⟨fun y => ?_, fun y => ⟨fun _ => ?_, fun z => absurd rfl z⟩⟩
      · have hw64 : w < 64 := by omega
        have hwn : w < now.length := by rw [S20.nl]; exact hw64
        have hld : ld1 g169 g9.next (0 + Int.toNat ((w : Nat) : Int) * 1) = some (.bool (isF L2 w)) := by
          rw [Int.toNat_natCast, Nat.mul_one, Nat.zero_add]
          exact S169.it.cell' (isC_get hw64)
        have hlw := S169.nk w _ (List.getElem?_eq_getElem hwn)
        have hsg := secsC_get S20.ns hwn
        have hbs := blL_succ L2 w
        generalize now[w] = s at hlw hsg
        have hn172 : n172 ≤ 64 := by have h1 := W169.1; rw [natC_len] at h1; have := blL_len L2 w; omega
        -- the block had
        have got : ∀ (g179 : AH) (pw : Option Addr) (nwn cw : Nat), PO g179 p F d m W nw M ((1 : Nat)) 0 → Fr F g20 g179 F → Grow g136.next g179 3 1 p162 n163 c164 (natC .i64 (blL L2 64)) → Grow g161.next g179 3 1 pw nwn cw (natC .i64 (blL L2 (w + 1))) → g161.next ≤ g179.next →
            ∃ i180 : Int, ∃ i181 : Int, ∃ i182 : Int, ldN g179 g3.next 0 3 = some ([(.int .i64 i180), (.int .u64 i181), (.int .u32 i182)] : List Value) ∧
            (Wf Try.prog K 34 [(.pointer (some ⟨p, 0, none⟩)), (.agg #[(.int .i64 i180), (.int .u64 i181), (.int .u32 i182)]), (.int .i64 (w : Nat))] g179 fun r183 h184 =>
            (∃ l185 : List Value, ∃ i186 : Int, r183 = (.tuple #[(.agg l185.toArray), (.int .i64 i186)]) ∧
            (∀ h187 : AH, h187 = h184.alloc (.cells (List.replicate 128 (.int .u8 0) : List Value) 57 false) →
            (List.length l185 = 128) ∧ ∃ h188 : AH, stN h187 h184.next 0 l185 = some h188 ∧
            (((i186 : Int) = 0 → ∃ l189 : List Value, ldN h188 h184.next 0 128 = some l189 ∧
            (((0 : Int) ≤ (w : Nat)) ∧ (((w : Nat) : Int) < 64) ∧
            (∃ l190 : List Value, ldN h188 g6.next (0 + Int.toNat ((w : Nat) : Int) * 128) 128 = some l190 ∧
            (∃ la191 lb192, keyA Try.prog 57 (.agg l189.toArray) = some la191 ∧ keyA Try.prog 57 (.agg l190.toArray) = some lb192 ∧
            (litsEq la191 lb192 = true → ∀ i193 : Int, i193 = IntKind.wrap .i64 ((w : Int) + 1) → ∃ j170, j170 < 64 - w ∧ ∃ u : Nat, i193 = u ∧ u ≤ 64 ∧ 64 - u = j170 ∧ PO h188 p F d m W nw M ((1 : Nat)) 0 ∧ Fr F g20 h188 F ∧ Grow g136.next h188 3 1 p162 n163 c164 (natC .i64 (blL L2 64)) ∧ Grow g161.next h188 3 1 pw nwn cw (natC .i64 (blL L2 u)) ∧ g161.next ≤ h188.next) ∧
            (litsEq la191 lb192 = false → (Value.bool false = .bool true)))))) ∧
            (¬ (i186 : Int) = 0 → (Value.bool false = .bool true)))))) := by
          intro g179 pw nwn cw B179 f179 G179 W179 l179
          have S179 := S20.fr B179 f179
          refine ⟨_, _, _, S179.rt.ld rfl, (treeGet kk kG B179 S179.tree hw64 hlw).mono ?_⟩
          rintro _ g184 ⟨rfl, B184, f184, hss⟩
          refine ⟨_, _, rfl, fun g187 e187 => ?_⟩
          obtain ⟨g188, k188, n188, o188, v188⟩ := put_new e187 (vs := secC s) (by rw [secC_len hss]; simp)
          have w188 := v188 F B184.lt
          have f188 := (f179.trans f184).trans (o188.fr F)
          have S188 := S20.fr (B184.old o188) f188
          have ks := kSec hss
          have l188 : g161.next ≤ g188.next := by have := f184.1; have := o188.1; omega
          have hF161 := B161.lt
          refine ⟨secC_len hss, g188, k188, fun _ => ⟨_, w188.ld (secC_len hss), by omega, by omega, secC s, by rw [Int.toNat_natCast, Nat.zero_add, S188.nt.ldp (by rw [secsC_len S20.ns, S20.nl]; omega), hsg], _, _, ks, ks, fun _ i193 e193 => ?_, fun y => ?_⟩, fun z => absurd rfl z⟩
          · have e193 := i64w e193 (by omega) (by omega)
            exact ⟨_, by omega, w + 1, by rw [e193]; rfl, by omega, rfl, B184.old o188, f188, (G179.fr f184 hF136).old o188, (W179.fr f184 hF161).old o188, l188⟩
          · rw [lits_sec] at y
            simp at y
        refine ⟨by omega, y, ?_⟩
        by_cases hb : blkP L2 w ≠ hole
        · have hf : isF L2 w = true := decide_eq_true hb
          rw [if_pos hb] at hbs
          refine .inl ⟨by rw [hld, hf], fun g175 e175 => ?_⟩
          obtain ⟨p176, c178, g179, k179, W179, ob179, -, -⟩ := W169.push eInt1 l169 (m := 1) e175 rfl (by unfold roomMax; omega) (by omega)
          have hl20 : g20.next ≤ g161.next := Nat.le_trans f136.1 f161.1
          refine ⟨p176, _, c178, g179, k179, got g179 p176 _ c178 (B169.imp fun Fd P => P.keep ob179.1 fun c hc => ob179.2 c (by have := hF20 c hc; omega)) ⟨Nat.le_trans f169.1 ob179.1, fun c hc hn => by rw [ob179.2 c (by omega), f169.2.1 c hc hn], fun c hc => .inl hc⟩ (G169.oldB ob179 hb162) ?_ (Nat.le_trans l169 ob179.1)⟩
          rw [hbs, natC_app]
          exact W179
        · have hf : isF L2 w = false := decide_eq_false hb
          rw [if_neg hb] at hbs
          exact .inr ⟨by rw [hld, hf], got g169 p171 n172 c173 B169 f169 G169 (by rw [hbs]; exact W169) l169⟩
      · have hw64 : w = 64 := by omega
        subst hw64
        refine (refSameInts kSame G169.shows W169.shows (by omega)).mono ?_
        rintro _ _ ⟨rfl, rfl⟩
        exact .inl ⟨rfl, rfl⟩
theorem holds_args {h : AH} {vs : List Value} (r : RdA Try.prog h 8 [53, 3] vs) :
    ∃ pa na ca acts a, vs = [.slice pa na ca, .int .i64 a] ∧ Acts h pa na acts := by
  obtain ⟨x, y, rfl, r1, r2⟩ := rda2 r
  obtain ⟨pa, na, ca, acts, rfl, T⟩ := rd_acts (g := 4) (rdv_acts r1)
  obtain ⟨a, rfl, -⟩ := rd_int (g := 7) r2
  exact ⟨pa, na, ca, acts, a, rfl, T⟩
end
end Go.Am
