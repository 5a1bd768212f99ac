/-
  THE DOCUMENT'S ANSWERS of the layers 2, 5, 11, 13 and 14, as far as families and books need them.
-/
import Derived.Test.YtibgmhipepaeaaaCNamed
import Derived.Test.YtibgmhipepaeaaaCWay
import Derived.Test.YtibgmhipepaeaaaVRef
set_option linter.unusedVariables false
set_option linter.unusedSimpArgs false
set_option maxRecDepth 100000
namespace Go.Am
open Go.Proofs
theorem getQ_b {s : ByteArray} {i : Nat} (h : i < s.size) : s[i]? = some (s.get! i) := by
 rw [getElem?_pos s i h, ← getE_btl h, getElem!_pos s i h]
structure KRef (K : Xs) : Prop where
 nRight : K 82 = none
 nSplit : K 59 = none
 qRight : K 83 = none
 qLess : K 110 = none
 hole : K 113 = none
 one : K 109 = none
 dRight : K 84 = none
 dSame : K 39 = none
section
variable {K : Xs} {h : AH} {p : Option Addr} {n c : Nat} {rs : List SetR}
theorem name14 (kk : KRef K) (s : ByteArray) : Wf Try.prog K 82 [.string s] h fun v h' => BoolIs v (NameR s) ∧ h = h' := by
 refine vc_aquiferref14_Right kk.nRight _ h _ ⟨fun z => ⟨.inr ⟨rfl, fun k => by have := k.1; omega⟩, rfl⟩, fun z => ⟨fun y => ⟨.inr ⟨rfl, fun k => by have := k.2.1; omega⟩, rfl⟩, fun y => ⟨fun i k g => ∃ u : Nat, i = u ∧ u ≤ s.size ∧ s.size - u = k ∧ h = g ∧ ∀ j, j < u → okB (s.get! j).toNat, ⟨_, 0, rfl, Nat.zero_le _, rfl, rfl, fun j hj => absurd hj (Nat.not_lt_zero _)⟩, ?_⟩⟩⟩
 rintro k1 _ i4 ⟨u, rfl, hu, rfl, rfl, hb⟩
 refine ⟨fun z => ⟨by omega, s.get! u, by rw [Int.toNat_natCast]; exact getQ_b (by omega), ?_⟩, fun z => ⟨.inl ⟨rfl, by omega, by omega, fun j hj => hb j (by omega)⟩, rfl⟩⟩
 have acc : okB (s.get! u).toNat → ∀ i6 : Int, i6 = IntKind.wrap .i64 ((u : Int) + 1) → ∃ j3, j3 < s.size - u ∧ ∃ u : Nat, i6 = u ∧ u ≤ s.size ∧ s.size - u = j3 ∧ h = h ∧ ∀ j, j < u → okB (s.get! j).toNat := fun k i6 e6 => by
  have e6 := i64w e6 (by omega) (by omega)
  refine ⟨s.size - (u + 1), by omega, u + 1, by omega, by omega, rfl, rfl, fun j hj => ?_⟩
  rcases Nat.lt_succ_iff_lt_or_eq.1 hj with hj | rfl
  ·exact hb j hj
  ·exact k
 have rej : ¬ okB (s.get! u).toNat → BoolIs (.bool false) (NameR s) ∧ h = h := fun k => ⟨.inr ⟨rfl, fun N => k (N.2.2 u (by omega))⟩, rfl⟩
 generalize (s.get! u).toNat = c at acc rej ⊢
 repeat' (first | exact acc (by unfold okB; omega) | exact rej (by unfold okB; omega) | (constructor <;> intro _))
theorem split14 (kk : KRef K) (f : ByteArray) (hf : f.size ≤ 9223372036854775806) : Wf Try.prog K 59 [.string f] h fun v h' => ((∃ a b, SplitOk f a b ∧ v = .tuple #[.string a, .string b, .int .i64 0]) ∨ ((∀ a b, ¬ SplitOk f a b) ∧ v = .tuple #[.string noB, .string noB, .int .i64 141])) ∧ h = h' := by
 refine vc_aquiferref14_Split kk.nSplit _ h _ ((name14 kk f).mono ?_)
 rintro _ _ ⟨⟨rfl, k⟩ | ⟨rfl, k⟩, rfl⟩
 ·exact .inl ⟨rfl, .inl ⟨_, _, .inl ⟨k, rfl, rfl⟩, rfl⟩, rfl⟩
 have hno : ∀ a b, SplitOk f a b → ∃ u : Nat, u < f.size ∧ f.get! u = 64 ∧ a = f.extract 0 u ∧ b = f.extract (u + 1) f.size ∧ NameR a ∧ NameR b := by
  rintro a b (⟨q, -, -⟩ | ⟨q1, q2, q3⟩)
  ·exact absurd q k
  ·have hb := congrArg btl q3
   rw [btl_join] at hb
   have hu : (btl f)[(btl a).length]? = some 64 := by rw [hb, List.getElem?_append_right (Nat.le_refl _), Nat.sub_self]; rfl
   have hl := (List.getElem?_eq_some_iff.1 hu).1
   rw [btl_len f] at hl
   have h64 : (64 : UInt8) ∉ (btl f).take (btl a).length := by rw [hb, List.take_left']; exact q1.no64; rfl
   obtain ⟨e1, e2, -, -⟩ := (cutSplit hu h64 a b).1 (.inr ⟨q1, q2, q3⟩)
   rw [get!_btl hl] at hu
   exact ⟨_, hl, Option.some.inj hu, e1, e2, q1, q2⟩
 refine .inr ⟨rfl, fun i k g => ∃ u : Nat, i = u ∧ u ≤ f.size ∧ f.size - u = k ∧ h = g ∧ ∀ j, j < u → f.get! j = 64 → ¬ (NameR (f.extract 0 j) ∧ NameR (f.extract (j + 1) f.size)), ⟨_, 0, rfl, Nat.zero_le _, rfl, rfl, fun j hj => absurd hj (Nat.not_lt_zero _)⟩, ?_⟩
 rintro k1 _ i4 ⟨u, rfl, hu, rfl, rfl, hb⟩
 refine ⟨fun z => ⟨by omega, f.get! u, by rw [Int.toNat_natCast]; exact getQ_b (by omega), ?_⟩, fun z => ⟨.inr ⟨fun a b q => ?_, rfl⟩, rfl⟩⟩
 ·have hus : u < f.size := by omega
  have step : ¬ (f.get! u = 64 ∧ NameR (f.extract 0 u) ∧ NameR (f.extract (u + 1) f.size)) → ∀ i6 : Int, i6 = IntKind.wrap .i64 ((u : Int) + 1) → ∃ j3, j3 < f.size - u ∧ ∃ u : Nat, i6 = u ∧ u ≤ f.size ∧ f.size - u = j3 ∧ h = h ∧ ∀ j, j < u → f.get! j = 64 → ¬ (NameR (f.extract 0 j) ∧ NameR (f.extract (j + 1) f.size)) := fun k i6 e6 => by
   have e6 := i64w e6 (by omega) (by omega)
   refine ⟨f.size - (u + 1), by omega, u + 1, by omega, by omega, rfl, rfl, fun j hj e => ?_⟩
   rcases Nat.lt_succ_iff_lt_or_eq.1 hj with hj | rfl
   ·exact hb j hj e
   ·exact fun q => k ⟨e, q⟩
  have s1 := fun (g : AH) => (aSlice_str (h := g) Try.underlying9 f u (by omega)).1
  have s2 := fun (g : AH) (i : Int) (e : i = IntKind.wrap .i64 ((u : Int) + 1)) => by
   have e := i64w e (by omega) (by omega)
   have := (aSlice_str (h := g) Try.underlying9 f (u + 1) (by omega)).2
   rw [show ((u + 1 : Nat) : Int) = i by omega] at this
   exact this
  refine ⟨fun e => ⟨_, s1 _, (name14 kk _).mono ?_⟩, fun e => step fun q => e (by rw [q.1]; rfl)⟩
  have e' : f.get! u = 64 := UInt8.toNat_inj.1 (by have : (64 : UInt8).toNat = 64 := rfl; omega)
  rintro _ _ ⟨⟨rfl, k1⟩ | ⟨rfl, k1⟩, rfl⟩
  ·refine .inl ⟨rfl, fun i11 e11 => ⟨_, s2 _ _ e11, (name14 kk _).mono ?_⟩⟩
   rintro _ _ ⟨⟨rfl, k2⟩ | ⟨rfl, k2⟩, rfl⟩
   ·refine .inl ⟨rfl, _, s1 _, fun i16 e16 => ⟨_, s2 _ _ e16, .inl ⟨_, _, ?_, rfl⟩, rfl⟩⟩
    have hs := split_at (f := f) (n := u) (by rw [get!_btl hus, e'])
    exact .inr ⟨k1, k2, hs⟩
   ·exact .inr ⟨rfl, step fun q => k2 q.2.2⟩
  ·exact .inr ⟨rfl, step fun q => k1 q.2.1⟩
 ·obtain ⟨w, h1, h2, rfl, rfl, h3, h4⟩ := hno a b q
  exact hb w (by omega) h2 ⟨h3, h4⟩
theorem ptr05 (kk : KRef K) (x y z : Int) : Wf Try.prog K 83 [.agg #[.int .i64 x, .int .u64 y, .int .u32 z]] h fun v h' => BoolIs v (PtrRI (x, y, z)) ∧ Old h h' := by
 refine vc_aquiferref05_Right kk.qRight _ _ _ h _ fun g0 e0 => ?_
 have o0 := old_of_alloc e0
 have c0 := get_of_alloc e0
 have no : (¬ PtrRI (x, y, z)) → BoolIs (.bool false) (PtrRI (x, y, z)) ∧ Old h g0 := fun e => ⟨.inr ⟨rfl, e⟩, o0⟩
 have yes : PtrRI (x, y, z) → BoolIs (.bool true) (PtrRI (x, y, z)) ∧ Old h g0 := fun e => ⟨.inl ⟨rfl, e⟩, o0⟩
 have rest : ¬ (x = 0 ∧ y = 0 ∧ z = 0) → _ := fun nz => show ∃ i12 : Int, ld1 g0 h.next 0 = some (.int .i64 i12) ∧
  (((4 : Int) ≤ i12 → ∃ i13 : Int, ld1 g0 h.next 0 = some (.int .i64 i13) ∧
  (((i13 : Int) ≤ 1023 → ∃ i14 : Int, ld1 g0 h.next 1 = some (.int .u64 i14) ∧
  (((1 : Int) ≤ i14 → ∃ i15 : Int, ld1 g0 h.next 1 = some (.int .u64 i15) ∧
  (((i15 : Int) < 281474976710656 → BoolIs (.bool true) (PtrRI (x, y, z)) ∧ Old h g0) ∧
  (¬ (i15 : Int) < 281474976710656 → BoolIs (.bool false) (PtrRI (x, y, z)) ∧ Old h g0))) ∧
  (¬ (1 : Int) ≤ i14 → BoolIs (.bool false) (PtrRI (x, y, z)) ∧ Old h g0))) ∧
  (¬ (i13 : Int) ≤ 1023 → BoolIs (.bool false) (PtrRI (x, y, z)) ∧ Old h g0))) ∧
  (¬ (4 : Int) ≤ i12 → BoolIs (.bool false) (PtrRI (x, y, z)) ∧ Old h g0)) from
  ⟨_, ld1_at c0 rfl, fun a => ⟨_, ld1_at c0 rfl, fun b => ⟨_, ld1_at c0 rfl, fun c => ⟨_, ld1_at c0 rfl, fun d => yes (by simp only [PtrRI]; omega), fun d => no (by simp only [PtrRI]; omega)⟩, fun c => no (by simp only [PtrRI]; omega)⟩, fun b => no (by simp only [PtrRI]; omega)⟩, fun a => no (by simp only [PtrRI]; omega)⟩
 exact ⟨_, ld1_at c0 rfl, fun a => ⟨_, ld1_at c0 rfl, fun b => ⟨_, ld1_at c0 rfl, fun c => yes (.inl ⟨a, b, c⟩), fun c => rest (by omega)⟩, fun b => rest (by omega)⟩, fun a => rest (by omega)⟩
theorem less05 (kk : KRef K) (a b : PtI) :
 Wf Try.prog K 110 [.agg #[.int .i64 a.1, .int .u64 a.2.1, .int .u32 a.2.2], .agg #[.int .i64 b.1, .int .u64 b.2.1, .int .u32 b.2.2]] h fun v h' => BoolIs v (LessI a b) ∧ Old h h' := by
 refine vc_aquiferref05_Less kk.qLess _ _ _ _ _ _ h _ fun g0 e0 g1 e1 => ?_
 have o0 := old_of_alloc e0
 have n0 := next_of_alloc e0
 have o1 := old_of_alloc e1
 have c0 := (o1.2 h.next (by omega)).trans (get_of_alloc e0)
 have c1 := get_of_alloc e1
 have oo := o0.trans o1
 refine ⟨_, ld1_at c0 rfl, _, ld1_at c1 rfl, fun e => ⟨_, ld1_at c0 rfl, _, ld1_at c1 rfl, fun e2 => ⟨_, ld1_at c0 rfl, _, ld1_at c1 rfl, fun e3 => ⟨.inl ⟨rfl, ?_⟩, oo⟩, fun e3 => ⟨.inr ⟨rfl, ?_⟩, oo⟩⟩, fun e2 => ⟨_, ld1_at c0 rfl, _, ld1_at c1 rfl, fun e3 => ⟨.inl ⟨rfl, ?_⟩, oo⟩, fun e3 => ⟨.inr ⟨rfl, ?_⟩, oo⟩⟩⟩, fun e => ⟨_, ld1_at c0 rfl, _, ld1_at c1 rfl, fun e3 => ⟨.inl ⟨rfl, ?_⟩, oo⟩, fun e3 => ⟨.inr ⟨rfl, ?_⟩, oo⟩⟩⟩ <;> unfold LessI <;> simp_all
theorem hole10 (kk : KRef K) (x y z : Int) : Wf Try.prog K 113 [.agg #[.int .i64 x, .int .u64 y, .int .u32 z]] h fun v h' => BoolIs v (x = 0 ∧ y = 0 ∧ z = 0) ∧ Old h h' := by
 refine vc_aquiferref10_Hole kk.hole _ _ _ h _ fun g0 e0 => ?_
 have o0 := old_of_alloc e0
 have c0 := get_of_alloc e0
 exact ⟨_, ld1_at c0 rfl, fun a => ⟨_, ld1_at c0 rfl, fun b => ⟨_, ld1_at c0 rfl, fun c => ⟨.inl ⟨rfl, a, b, c⟩, o0⟩, fun c => ⟨.inr ⟨rfl, fun z => c z.2.2⟩, o0⟩⟩, fun b => ⟨.inr ⟨rfl, fun z => b z.2.1⟩, o0⟩⟩, fun a => ⟨.inr ⟨rfl, fun z => a z.1⟩, o0⟩⟩
theorem one13 (kk : KRef K) (x y z : Int) : Wf Try.prog K 109 [.agg #[.int .i64 x, .int .u64 y, .int .u32 z]] h fun v h' => BoolIs v (FitsI (x, y, z)) ∧ Old h h' := by
 refine vc_aquiferref13_one kk.one _ _ _ h _ fun g0 e0 => ?_
 have o0 := old_of_alloc e0
 have n0 := next_of_alloc e0
 have c0 := get_of_alloc e0
 refine ⟨_, _, _, ldN_all c0 rfl, (hole10 kk x y z).mono ?_⟩
 rintro _ g1 ⟨⟨rfl, k⟩ | ⟨rfl, k⟩, o1⟩
 ·exact .inl ⟨rfl, .inr ⟨rfl, fun q => q.1 k⟩, o0.trans o1⟩
 ·have c1 := (o1.2 h.next (by omega)).trans c0
  refine .inr ⟨rfl, _, _, _, ldN_all c1 rfl, (ptr05 kk x y z).mono ?_⟩
  rintro _ g2 ⟨⟨rfl, k2⟩ | ⟨rfl, k2⟩, o2⟩
  ·exact .inl ⟨rfl, .inl ⟨rfl, k, k2⟩, (o0.trans o1).trans o2⟩
  ·exact .inr ⟨rfl, .inr ⟨rfl, fun q => k2 q.2⟩, (o0.trans o1).trans o2⟩
theorem same11 (kk : KRef K) {pa : Option Addr} {na ca : Nat} {xs : List PtI} (S : Shows h pa na 3 (ptI xs)) (hwa : ∀ q ∈ xs, PtrWfI q) (hna : na ≤ 1000000000000000) {pb : Option Addr} {nb cb : Nat} {ys : List PtI} (T : Shows h pb nb 3 (ptI ys)) (hwb : ∀ q ∈ ys, PtrWfI q) :
 Wf Try.prog K 39 [.slice pa na ca, .slice pb nb cb] h fun v h' => BoolIs v (xs = ys) ∧ h = h' := by
 have hla : na = xs.length := by have := S.1; rw [ptI_len] at this; omega
 have hlb : nb = ys.length := by have := T.1; rw [ptI_len] at this; omega
 refine vc_aquiferref11_Same kk.dSame _ _ _ _ _ _ h _ ⟨fun e => ⟨fun i k g => ∃ u : Nat, i = u ∧ u ≤ na ∧ na - u = k ∧ h = g ∧ xs.take u = ys.take u, ⟨_, 0, rfl, Nat.zero_le _, rfl, rfl, rfl⟩, ?_⟩, fun e => ⟨.inr ⟨rfl, fun q => e (by rw [hla, hlb, q])⟩, rfl⟩⟩
 rintro k1 _ i4 ⟨u, rfl, hu, rfl, rfl, hb⟩
 refine ⟨fun z => ?_, fun z => ⟨.inl ⟨rfl, ?_⟩, rfl⟩⟩
 ·have hua : u < xs.length := by omega
  have hub : u < ys.length := by omega
  obtain ⟨b1, off1, rfl, hld1, -⟩ := S.getN (i := u) (by omega)
  obtain ⟨b2, off2, rfl, hld2, -⟩ := T.getN (i := u) (by omega)
  rw [ptI_get xs u hua] at hld1
  rw [ptI_get ys u hub] at hld2
  have w1 := hwa _ (List.getElem_mem hua)
  have w2 := hwb _ (List.getElem_mem hub)
  refine derefP_at ⟨by omega, z, _, _, _, by rw [Int.toNat_natCast]; exact hld1, derefP_at ⟨by omega, by omega, _, _, _, by rw [Int.toNat_natCast]; exact hld2, _, _, kPtrF w1.1 w1.2.1 w1.2.2, kPtrF w2.1 w2.2.1 w2.2.2, fun e i17 e17 => ?_, fun e => ⟨.inr ⟨rfl, fun q => ?_⟩, rfl⟩⟩⟩
  ·rw [lits3] at e
   have e := of_decide_eq_true e
   have e17 := i64w e17 (by omega) (by omega)
   refine ⟨na - (u + 1), by omega, u + 1, by omega, by omega, rfl, rfl, ?_⟩
   rw [List.take_succ_eq_append_getElem hua, List.take_succ_eq_append_getElem hub, hb]
   have : xs[u] = ys[u] := Prod.ext e.1 (Prod.ext e.2.1 e.2.2)
   rw [this]
  ·rw [lits3] at e
   have e := of_decide_eq_false e
   subst q
   exact e ⟨rfl, rfl, rfl⟩
 ·have h1 : xs.take u = xs := List.take_of_length_le (by omega)
  have h2 : ys.take u = ys := List.take_of_length_le (by omega)
  rw [← h1, hb, h2]
end
end Go.Am
