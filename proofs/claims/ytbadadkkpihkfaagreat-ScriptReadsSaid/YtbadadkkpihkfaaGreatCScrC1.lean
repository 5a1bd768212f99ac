/-
  WHICH SCRIPTS CAN BE: the program's and the document's.
-/
import Derived.Test.YtbadadkkpihkfaaGreatCDoc02
set_option linter.unusedVariables false
set_option linter.unusedSimpArgs false
set_option maxRecDepth 100000
namespace Go.Am
open Go.Proofs
instance (k : Int) : Decidable (hN k) := by unfold hN; infer_instance
instance (k : Int) : Decidable (hName k) := by unfold hName; infer_instance
instance (k : Int) : Decidable (hTo k) := by unfold hTo; infer_instance
instance (k : Int) : Decidable (hData k) := by unfold hData; infer_instance
instance (k : Int) : Decidable (hKeep k) := by unfold hKeep; infer_instance
/-- A truth that is told, and what is known by it. -/
def BoolS (v : Value) (P : Prop) : Prop := (v = .bool true ∧ P) ∨ (v = .bool false ∧ ¬ P)
theorem orP {x : Option Value} {P : Prop} [Decidable P] {A B : Prop} (h : x = some (.bool (decide P))) (h1 : P → A) (h2 : ¬ P → B) : (x = some (.bool true) ∧ A) ∨ (x = some (.bool false) ∧ B) := by
  by_cases p : P
  · exact .inl ⟨by rw [h, decide_eq_true p], h1 p⟩
  · exact .inr ⟨by rw [h, decide_eq_false p], h2 p⟩
theorem strNil {s : ByteArray} {A B : Prop} (h1 : s.size = 0 → A) (h2 : s.size ≠ 0 → B) : (s = ByteArray.mk #[] → A) ∧ (¬ s = ByteArray.mk #[] → B) :=
  ⟨fun e => h1 (by rw [e]; rfl), fun e => h2 fun z => e (by
    obtain ⟨d⟩ := s
    congr 1
    exact Array.eq_empty_of_size_eq_zero z)⟩
theorem lvlS {x : Option Value} {P : Prop} [Decidable P] {b off : Nat} {g : AH} {j : Nat} {s : ByteArray} {D F : Prop} (h : x = some (.bool (decide P))) (l : ld1 g b (off + j) = some (.string s)) (hD : (P ∨ s.size = 0) → D) (hF : ¬ P → s.size ≠ 0 → F) :
    (x = some (.bool true) ∧ D) ∨ (x = some (.bool false) ∧ derefP (some ⟨b, off, none⟩) fun b' o' => ∃ s', ld1 g b' (o' + j) = some (.string s') ∧ ((s' = ByteArray.mk #[] → D) ∧ (¬ s' = ByteArray.mk #[] → F))) :=
  orP h (fun p => hD (.inl p)) fun p => derefP_at ⟨_, l, strNil (fun z => hD (.inr z)) fun z => hF p z⟩
theorem lvlI {x : Option Value} {P : Prop} [Decidable P] {b off : Nat} {g : AH} {j : Nat} {i : Int} {D F : Prop} (h : x = some (.bool (decide P))) (l : ld1 g b (off + j) = some (.int .i64 i)) (hD : (P ∨ i = 0) → D) (hF : ¬ P → i ≠ 0 → F) :
    (x = some (.bool true) ∧ D) ∨ (x = some (.bool false) ∧ derefP (some ⟨b, off, none⟩) fun b' o' => ∃ i' : Int, ld1 g b' (o' + j) = some (.int .i64 i') ∧ ((i' = 0 → D) ∧ (¬ i' = 0 → F))) :=
  orP h (fun p => hD (.inl p)) fun p => derefP_at ⟨_, l, fun z => hD (.inr z), fun z => hF p z⟩
theorem lvlL {x : Option Value} {P : Prop} [Decidable P] {b off : Nat} {g : AH} {j : Nat} {p : Option Addr} {n c : Nat} {D F : Prop} (h : x = some (.bool (decide P))) (l : ld1 g b (off + j) = some (.slice p n c)) (hD : (P ∨ n = 0) → D) (hF : ¬ P → n ≠ 0 → F) :
    (x = some (.bool true) ∧ D) ∨ (x = some (.bool false) ∧ derefP (some ⟨b, off, none⟩) fun b' o' => ∃ (p' : Option Addr) (n' c' : Nat), ld1 g b' (o' + j) = some (.slice p' n' c') ∧ ((((n' : Nat) : Int) = 0 → D) ∧ (¬ ((n' : Nat) : Int) = 0 → F))) :=
  orP h (fun p => hD (.inl p)) fun p => derefP_at ⟨_, _, _, l, fun z => hD (.inr (by omega)), fun z => hF p (by omega)⟩
theorem lvlS0 {x y : Option Value} {P : Prop} [Decidable P] {s : ByteArray} {D F : Prop} (h : x = some (.bool (decide P))) (l : y = some (.string s)) (hD : (P ∨ s.size = 0) → D) (hF : ¬ P → s.size ≠ 0 → F) :
    (x = some (.bool true) ∧ D) ∨ (x = some (.bool false) ∧ ∃ s', y = some (.string s') ∧ ((s' = ByteArray.mk #[] → D) ∧ (¬ s' = ByteArray.mk #[] → F))) :=
  orP h (fun p => hD (.inl p)) fun p => ⟨_, l, strNil (fun z => hD (.inr z)) fun z => hF p z⟩
theorem lvlI0 {x y : Option Value} {P : Prop} [Decidable P] {i : Int} {D F : Prop} (h : x = some (.bool (decide P))) (l : y = some (.int .i64 i)) (hD : (P ∨ i = 0) → D) (hF : ¬ P → i ≠ 0 → F) :
    (x = some (.bool true) ∧ D) ∨ (x = some (.bool false) ∧ ∃ i' : Int, y = some (.int .i64 i') ∧ ((i' = 0 → D) ∧ (¬ i' = 0 → F))) :=
  orP h (fun p => hD (.inl p)) fun p => ⟨_, l, fun z => hD (.inr z), fun z => hF p z⟩
theorem lvlL0 {x y : Option Value} {P : Prop} [Decidable P] {p : Option Addr} {n c : Nat} {D F : Prop} (h : x = some (.bool (decide P))) (l : y = some (.slice p n c)) (hD : (P ∨ n = 0) → D) (hF : ¬ P → n ≠ 0 → F) :
    (x = some (.bool true) ∧ D) ∨ (x = some (.bool false) ∧ ∃ (p' : Option Addr) (n' c' : Nat), y = some (.slice p' n' c') ∧ ((((n' : Nat) : Int) = 0 → D) ∧ (¬ ((n' : Nat) : Int) = 0 → F))) :=
  orP h (fun p => hD (.inl p)) fun p => ⟨_, _, _, l, fun z => hD (.inr (by omega)), fun z => hF p (by omega)⟩
theorem st1K {g0 g : AH} {b i : Nat} {v : Value} {cs : List Value} {ty : TypeId} {A : AH → Prop} (n : Near b g0 g) (w : g.get b = some (.cells cs ty false)) (hi : i < cs.length) (k : ∀ g', Near b g0 g' → g'.get b = some (.cells (cs.set i v) ty false) → A g') : ∃ g', st1 g b i v = some g' ∧ A g' :=
  ⟨_, st1_of w hi, k _ (n.trans (near_set _ _ _)) (get_set_self _ _ _)⟩
/-- What an op must be, in numbers. -/
def OpA (o : OpP) : Prop := (0 ≤ o.kind ∧ o.kind ≤ 12) ∧ ((0 ≤ o.kind ∧ o.kind ≤ 8) ∨ o.name.size = 0) ∧ o.name.size ≤ 60 ∧ (o.kind = 5 ∨ o.to.size = 0) ∧ o.to.size ≤ 60 ∧ (((0 ≤ o.kind ∧ o.kind ≤ 3) ∨ o.kind = 10 ∨ o.kind = 12) ∨ o.n = 0) ∧ (-1 ≤ o.n ∧ o.n ≤ 65534) ∧ ((o.kind = 1 ∨ o.kind = 12) ∨ o.data.length = 0) ∧ o.data.length ≤ 129 ∧ (o.kind = 11 ∨ o.keep.length = 0) ∧ o.keep.length ≤ 64
theorem OpA.ok {o : OpP} (h : OpA o) : OpOk o := by
  obtain ⟨⟨h1, h2⟩, h3, h4, h5, h6, h7, ⟨h8, h9⟩, h10, h11, h12, h13⟩ := h
  exact ⟨h1, h2, h3, h4, h5, h6, h7, h8, h9, h10, h11, h12, h13⟩
theorem OpOk.a {o : OpP} (h : OpOk o) : OpA o := ⟨⟨h.lo, h.hi⟩, h.name, h.nameL, h.to, h.toL, h.n, ⟨h.nLo, h.nHi⟩, h.data, h.dataL, h.keep, h.keepL⟩
theorem Ops.block {h : AH} {p : Option Addr} {n : Nat} {os : List OpP} (t : Ops h p n os) {b off : Nat} (e : p = some ⟨b, off, none⟩) (hn : 0 < n) : b < h.next := by
  obtain ⟨t1, t2, t3, cells, t4, t5⟩ := t
  rcases t4.2 with z | ⟨b', off', al, e', ro, hp', hb', -⟩
  · omega
  · rw [e] at hp'; cases hp'; exact hb'
section
variable {K : Xs} {h : AH}
theorem partsSpec (hk : K 32 = none) (k : Int) : Wf Tryz.prog K 32 [.int .i64 k] h fun v h' => v = .tuple #[.agg #[.bool (decide (hName k)), .bool (decide (hTo k)), .bool (decide (hN k)), .bool (decide (hData k)), .bool (decide (hKeep k))], .bool (decide (0 ≤ k ∧ k ≤ 12))] ∧ Old h h' := by
  refine vc_script_partsOf hk _ h _ fun g0 e0 g1 e1 => ?_
  have o0 := old_of_alloc e0
  have n0 := next_of_alloc e0
  have n1 := next_of_alloc e1
  have o1 := old_of_alloc e1
  have w1 := get_of_alloc e1
  have c1 : g1.get h.next = _ := (o1.2 _ (by omega)).trans (get_of_alloc e0)
  have r1 := Near.refl g0.next g1
  have fin : ∀ {g : AH} {l : List Value}, Near g0.next g1 g → l.length = 5 → ∃ g', stN g h.next 0 l = some g' ∧ ldN g' h.next 0 5 = some l ∧ Old h g' := fun {g l} n hl => by
    have cg : g.get h.next = _ := (n.2 _ (by omega)).trans c1
    exact ⟨_, stN_all cg hl, ldN_all (get_set_self _ _ _) hl, ⟨by rw [show (g.set h.next _).next = g.next from rfl, n.1]; omega, fun b hb => by rw [get_set_ne (by omega), n.2 b (by omega), o1.2 b (by omega), o0.2 b hb]⟩⟩
  have tail : ∀ {g : AH} {a b c d e : Bool}, Near g0.next g1 g → g.get g0.next = some (.cells [.bool a, .bool b, .bool c, .bool d, .bool e] 79 false) → a = decide (hName k) → b = decide (hTo k) → c = decide (hN k) → d = decide (hData k) → e = decide (hKeep k) → (0 ≤ k ∧ k ≤ 12) →
      ∃ g', stN g h.next 0 [.bool a, .bool b, .bool c, .bool d, .bool e] = some g' ∧ ldN g' h.next 0 5 = some [.bool a, .bool b, .bool c, .bool d, .bool e] ∧ ((Value.tuple #[.agg #[.bool a, .bool b, .bool c, .bool d, .bool e], .bool true] = .tuple #[.agg #[.bool (decide (hName k)), .bool (decide (hTo k)), .bool (decide (hN k)), .bool (decide (hData k)), .bool (decide (hKeep k))], .bool (decide (0 ≤ k ∧ k ≤ 12))]) ∧ Old h g') := fun {g a b c d e} n w ha hb hc hd he hk => by
    obtain ⟨g', q1, q2, q3⟩ := fin n (l := [.bool a, .bool b, .bool c, .bool d, .bool e]) rfl
    exact ⟨g', q1, q2, by rw [ha, hb, hc, hd, he, decide_eq_true hk], q3⟩
  repeat' (first
    | refine ⟨fun z => ?_, fun z => ?_⟩
    | (refine st1K r1 w1 (by decide) fun g n w => ?_; try refine st1K n w (by decide) fun g n w => ?_; try refine st1K n w (by decide) fun g n w => ?_))
  all_goals first
    | (subst_vars
       refine ⟨_, _, _, _, _, ldN_all ‹_› rfl, rfl, ?_⟩
       obtain ⟨g', q1, q2, q3⟩ := tail (by assumption) (by assumption) (by decide) (by decide) (by decide) (by decide) (by decide) (by decide)
       exact ⟨g', q1, _, _, _, _, _, q2, q3⟩)
    | (obtain ⟨g', q1, q2, q3⟩ := fin r1 (l := [.bool false, .bool false, .bool false, .bool false, .bool false]) rfl
       refine ⟨rfl, g', q1, _, _, _, _, _, q2, ?_, q3⟩
       rw [decide_eq_false (show ¬ hName k by unfold hName; omega), decide_eq_false (show ¬ hTo k by unfold hTo; omega), decide_eq_false (show ¬ hN k by unfold hN; omega), decide_eq_false (show ¬ hData k by unfold hData; omega), decide_eq_false (show ¬ hKeep k by unfold hKeep; omega), decide_eq_false (show ¬ (0 ≤ k ∧ k ≤ 12) by omega)])
theorem opRightSpec (hk : K 20 = none) (hp : K 32 = none) {p : Option Addr} {n : Nat} {os : List OpP} (T : Ops h p n os) {b off i : Nat} (ep : p = some ⟨b, off, none⟩) (hi : i < n) (hi' : i < os.length) :
    Wf Tryz.prog K 20 [.pointer (some ⟨b, off + i * 6, none⟩)] h fun v h' => BoolS v (OpA os[i]) ∧ Old h h' := by
  obtain ⟨b', off', e, hi2, pd, nd, cd, pk, nk, ck, -, l0, l1, l2, l3, l4, l5, td, tk, s1, s2, lt⟩ := T.at hi
  rw [ep] at e
  cases e
  have hnd := td.2.1
  have hnk := tk.2.1
  refine vc_script_opRight hk _ h _ (derefP_at ⟨_, l0, (partsSpec hp os[i].kind).mono ?_⟩)
  rintro _ g4 ⟨rfl, o4⟩
  refine ⟨decide (hName os[i].kind), decide (hTo os[i].kind), decide (hN os[i].kind), decide (hData os[i].kind), decide (hKeep os[i].kind), ?_⟩
  by_cases hkd : 0 ≤ os[i].kind ∧ os[i].kind ≤ 12
  · refine .inl ⟨by rw [decide_eq_true hkd], fun g10 e10 => ?_⟩
    obtain ⟨g11, k11, n11, o11, v11⟩ := put_new e10 (vs := [.bool (decide (hName os[i].kind)), .bool (decide (hTo os[i].kind)), .bool (decide (hN os[i].kind)), .bool (decide (hData os[i].kind)), .bool (decide (hKeep os[i].kind))]) rfl
    have w11 := (v11 [] (fun c hc => by cases hc)).1
    refine ⟨rfl, g11, k11, ?_⟩
    have oo := o4.trans o11
    have m : ∀ (j : Nat) v, ld1 h b (off + i * 6 + j) = some v → ld1 g11 b (off + i * 6 + j) = some v := fun j v z => by rw [← z]; unfold ld1; rw [oo.2 b lt]
    have m1 := m 1 _ l1
    have m2 := m 2 _ l2
    have m3 := m 3 _ l3
    have m4 := m 4 _ l4
    have m5 := m 5 _ l5
    have q0 : ld1 g11 g4.next 0 = some (.bool (decide (0 ≤ os[i].kind ∧ os[i].kind ≤ 8))) := (ld1_at w11 rfl).trans (congrArg (fun x => some (Value.bool x)) (decide_eq_decide.2 Iff.rfl))
    have q1 : ld1 g11 g4.next 1 = some (.bool (decide (os[i].kind = 5))) := (ld1_at w11 rfl).trans (congrArg (fun x => some (Value.bool x)) (decide_eq_decide.2 Iff.rfl))
    have q2 : ld1 g11 g4.next 2 = some (.bool (decide ((0 ≤ os[i].kind ∧ os[i].kind ≤ 3) ∨ os[i].kind = 10 ∨ os[i].kind = 12))) := (ld1_at w11 rfl).trans (congrArg (fun x => some (Value.bool x)) (decide_eq_decide.2 Iff.rfl))
    have q3 : ld1 g11 g4.next 3 = some (.bool (decide (os[i].kind = 1 ∨ os[i].kind = 12))) := (ld1_at w11 rfl).trans (congrArg (fun x => some (Value.bool x)) (decide_eq_decide.2 Iff.rfl))
    have q4 : ld1 g11 g4.next 4 = some (.bool (decide (os[i].kind = 11))) := (ld1_at w11 rfl).trans (congrArg (fun x => some (Value.bool x)) (decide_eq_decide.2 Iff.rfl))
    have lf : ¬ OpA os[i] → BoolS (.bool false) (OpA os[i]) ∧ Old h g11 := fun z => ⟨.inr ⟨rfl, z⟩, oo⟩
    have lt : OpA os[i] → BoolS (.bool true) (OpA os[i]) ∧ Old h g11 := fun z => ⟨.inl ⟨rfl, z⟩, oo⟩
    clear w11 v11 k11 e10 l0 l1 l2 l3 l4 l5 m s1 s2 td tk T
    unfold OpA at lf lt ⊢
    refine lvlS q0 m1 (fun a0 => derefP_at ⟨_, m1, fun a1 => ?_, fun a1 => lf (by omega)⟩) fun a0 a1 => lf (by omega)
    refine lvlS q1 m2 (fun a2 => derefP_at ⟨_, m2, fun a3 => ?_, fun a3 => lf (by omega)⟩) fun a2 a3 => lf (by omega)
    refine lvlI q2 m3 (fun a4 => derefP_at ⟨_, m3, fun a5 => derefP_at ⟨_, m3, fun a6 => ?_, fun a6 => lf (by omega)⟩, fun a5 => lf (by omega)⟩) fun a4 a5 => lf (by omega)
    refine lvlL q3 m4 (fun a7 => derefP_at ⟨_, _, _, m4, fun a8 => ?_, fun a8 => lf (by omega)⟩) fun a7 a8 => lf (by omega)
    exact lvlL q4 m5 (fun a9 => derefP_at ⟨_, _, _, m5, fun a10 => lt (by omega), fun a10 => lf (by omega)⟩) fun a9 a10 => lf (by omega)
  · refine .inr ⟨by rw [decide_eq_false hkd], fun g10 e10 => ?_⟩
    obtain ⟨g11, k11, n11, o11, v11⟩ := put_new e10 (vs := [.bool (decide (hName os[i].kind)), .bool (decide (hTo os[i].kind)), .bool (decide (hN os[i].kind)), .bool (decide (hData os[i].kind)), .bool (decide (hKeep os[i].kind))]) rfl
    exact ⟨rfl, g11, k11, .inr ⟨rfl, fun z => hkd z.1⟩, o4.trans o11⟩
theorem hasSpec (hk : K 33 = none) (k : Int) : Wf Tryz.prog K 33 [.int .i64 k] h fun v h' => v = .agg #[.bool (decide (hName k)), .bool (decide (hTo k)), .bool (decide (hN k)), .bool (decide (hData k)), .bool (decide (hKeep k))] ∧ Old h h' := by
  refine vc_aquiferref23_has hk _ h _ fun g0 e0 => ?_
  have fin : ∀ {a b c d e : Bool}, a = decide (hName k) → b = decide (hTo k) → c = decide (hN k) → d = decide (hData k) → e = decide (hKeep k) →
      ∃ g', stN g0 h.next 0 [.bool a, .bool b, .bool c, .bool d, .bool e] = some g' ∧ ∃ a b c d e : Bool, ldN g' h.next 0 5 = some [.bool a, .bool b, .bool c, .bool d, .bool e] ∧ ((Value.agg #[.bool a, .bool b, .bool c, .bool d, .bool e] = .agg #[.bool (decide (hName k)), .bool (decide (hTo k)), .bool (decide (hN k)), .bool (decide (hData k)), .bool (decide (hKeep k))]) ∧ Old h g') := fun {a b c d e} ha hb hc hd he => by
    obtain ⟨g', q1, -, q2, q3⟩ := put_new e0 (vs := [.bool a, .bool b, .bool c, .bool d, .bool e]) rfl
    exact ⟨g', q1, _, _, _, _, _, (q3 [] (fun c hc => by cases hc)).ld rfl, by rw [ha, hb, hc, hd, he], q2⟩
  repeat' (first | refine ⟨fun z => ?_, fun z => ?_⟩ | fail)
  all_goals first
    | (subst_vars
       exact ⟨rfl, fin (by decide) (by decide) (by decide) (by decide) (by decide)⟩)
    | exact ⟨rfl, fin (a := false) (b := false) (c := false) (d := false) (e := false) (decide_eq_false (show ¬ hName k by unfold hName; omega)).symm (decide_eq_false (show ¬ hTo k by unfold hTo; omega)).symm (decide_eq_false (show ¬ hN k by unfold hN; omega)).symm (decide_eq_false (show ¬ hData k by unfold hData; omega)).symm (decide_eq_false (show ¬ hKeep k by unfold hKeep; omega)).symm⟩
theorem right23Spec (hk : K 21 = none) (hp : K 33 = none) (o : OpP) {pd pk : Option Addr} {nd cd nk ck : Nat} (hnd : nd = o.data.length) (hnk : nk = o.keep.length) :
    Wf Tryz.prog K 21 [.agg #[.int .i64 o.kind, .string o.name, .string o.to, .int .i64 o.n, .slice pd nd cd, .slice pk nk ck]] h fun v h' => BoolS v (OpA o) ∧ Old h h' := by
  refine vc_aquiferref23_right hk _ _ _ _ _ _ _ _ _ _ h _ fun g0 e0 => ⟨_, ld1_at (get_of_alloc e0) rfl, (hasSpec hp o.kind).mono ?_⟩
  rintro _ g3 ⟨rfl, o3⟩
  have n0 := next_of_alloc e0
  have o0 := old_of_alloc e0
  refine ⟨_, _, _, _, _, rfl, fun g9 e9 => ?_⟩
  obtain ⟨g10, k10, n10, o10, v10⟩ := put_new e9 (vs := [.bool (decide (hName o.kind)), .bool (decide (hTo o.kind)), .bool (decide (hN o.kind)), .bool (decide (hData o.kind)), .bool (decide (hKeep o.kind))]) rfl
  have w10 := (v10 [] (fun c hc => by cases hc)).1
  have oo := (o0.trans o3).trans o10
  have c10 : g10.get h.next = _ := ((o3.trans o10).2 _ (by omega)).trans (get_of_alloc e0)
  have m0 : ld1 g10 h.next 0 = some (.int .i64 o.kind) := ld1_at c10 rfl
  have m1 : ld1 g10 h.next 1 = some (.string o.name) := ld1_at c10 rfl
  have m2 : ld1 g10 h.next 2 = some (.string o.to) := ld1_at c10 rfl
  have m3 : ld1 g10 h.next 3 = some (.int .i64 o.n) := ld1_at c10 rfl
  have m4 : ld1 g10 h.next 4 = some (.slice pd nd cd) := ld1_at c10 rfl
  have m5 : ld1 g10 h.next 5 = some (.slice pk nk ck) := ld1_at c10 rfl
  have q0 : ld1 g10 g3.next 0 = some (.bool (decide (0 ≤ o.kind ∧ o.kind ≤ 8))) := (ld1_at w10 rfl).trans (congrArg (fun x => some (Value.bool x)) (decide_eq_decide.2 Iff.rfl))
  have q1 : ld1 g10 g3.next 1 = some (.bool (decide (o.kind = 5))) := (ld1_at w10 rfl).trans (congrArg (fun x => some (Value.bool x)) (decide_eq_decide.2 Iff.rfl))
  have q2 : ld1 g10 g3.next 2 = some (.bool (decide ((0 ≤ o.kind ∧ o.kind ≤ 3) ∨ o.kind = 10 ∨ o.kind = 12))) := (ld1_at w10 rfl).trans (congrArg (fun x => some (Value.bool x)) (decide_eq_decide.2 Iff.rfl))
  have q3 : ld1 g10 g3.next 3 = some (.bool (decide (o.kind = 1 ∨ o.kind = 12))) := (ld1_at w10 rfl).trans (congrArg (fun x => some (Value.bool x)) (decide_eq_decide.2 Iff.rfl))
  have q4 : ld1 g10 g3.next 4 = some (.bool (decide (o.kind = 11))) := (ld1_at w10 rfl).trans (congrArg (fun x => some (Value.bool x)) (decide_eq_decide.2 Iff.rfl))
  have lf : ¬ OpA o → BoolS (.bool false) (OpA o) ∧ Old h g10 := fun z => ⟨.inr ⟨rfl, z⟩, oo⟩
  have lt : OpA o → BoolS (.bool true) (OpA o) ∧ Old h g10 := fun z => ⟨.inl ⟨rfl, z⟩, oo⟩
  refine ⟨rfl, g10, k10, ?_⟩
  clear w10 v10 k10 e9 c10 e0
  unfold OpA at lf lt ⊢
  refine ⟨_, m0, fun a => lf (by omega), fun a => ⟨_, m0, fun a => lf (by omega), fun a => ⟨_, m1, fun a => lf (by omega), fun a => ⟨_, m2, fun a => lf (by omega), fun a => ⟨_, _, _, m4, fun a => lf (by omega), fun a => ⟨_, _, _, m5, fun a => lf (by omega), fun a => ⟨_, m3, fun a => lf (by omega), fun a => ⟨_, m3, fun a => lf (by omega), fun a => ⟨by decide, by decide, ?_⟩⟩⟩⟩⟩⟩⟩⟩⟩
  refine lvlS0 q0 m1 (fun a0 => ⟨by decide, by decide, ?_⟩) fun a0 a1 => lf (by omega)
  refine lvlS0 q1 m2 (fun a0 => ⟨by decide, by decide, ?_⟩) fun a0 a1 => lf (by omega)
  refine lvlI0 q2 m3 (fun a0 => ⟨by decide, by decide, ?_⟩) fun a0 a1 => lf (by omega)
  refine lvlL0 q3 m4 (fun a0 => ⟨by decide, by decide, ?_⟩) fun a0 a1 => lf (by omega)
  exact lvlL0 q4 m5 (fun a0 => lt (by omega)) fun a0 a1 => lf (by omega)
theorem scrRight (hk : K 10 = none) (ho : K 20 = none) (hp : K 32 = none) {s : ScrP} {p : Option Addr} {n c : Nat} (T : Ops h p n s.ops) :
    Wf Tryz.prog K 10 [.agg #[.int .i64 s.secs, .slice p n c]] h fun v h' => BoolS v (ScrOk s) ∧ Old h h' := by
  have hn := T.2.1
  have hr := T.2.2.1
  have hre : reachBytes = 140737488351232 := rfl
  refine vc_script_Right hk _ _ _ _ h _ fun g0 e0 => ?_
  have n0 := next_of_alloc e0
  have o0 := old_of_alloc e0
  have m0 : ld1 g0 h.next 0 = some (.int .i64 s.secs) := ld1_at (get_of_alloc e0) rfl
  have m1 : ld1 g0 h.next 1 = some (.slice p n c) := ld1_at (get_of_alloc e0) rfl
  refine ⟨_, m0, fun a => ⟨.inr ⟨rfl, fun k => by have := k.lo; omega⟩, o0⟩, fun a => ⟨_, m0, fun a => ⟨.inr ⟨rfl, fun k => by have := k.hi; omega⟩, o0⟩, fun a => ⟨_, _, _, m1, fun a => ⟨.inr ⟨rfl, fun k => by have := k.len; omega⟩, o0⟩, fun a => ⟨_, _, _, m1, ?_⟩⟩⟩⟩
  refine ⟨fun i k g => ∃ j : Nat, i = j ∧ j ≤ n ∧ n - j = k ∧ Old g0 g ∧ ∀ (u : Nat) (hu : u < s.ops.length), u < j → OpA s.ops[u], ⟨_, 0, rfl, Nat.zero_le _, rfl, Old.refl _, fun u hu z => absurd z (Nat.not_lt_zero _)⟩, ?_⟩
  rintro k10 g11 i13 ⟨j, rfl, hj, rfl, o11, hb⟩
  have oh := o0.trans o11
  refine ⟨fun z => ?_, fun z => ?_⟩
  · have hjn : j < n := by omega
    obtain ⟨b, off, rfl, -⟩ := T.at hjn
    have m1' : ld1 g11 h.next 1 = some (.slice (some ⟨b, off, none⟩) n c) := ld1_at ((o11.2 _ (by omega)).trans (get_of_alloc e0)) rfl
    refine ⟨_, _, _, m1', derefP_at ⟨by omega, by omega, (opRightSpec ho hp (T.old oh) rfl hjn (by omega)).mono ?_⟩⟩
    rintro _ g20 ⟨⟨rfl, k⟩ | ⟨rfl, k⟩, o20⟩
    · refine .inl ⟨rfl, fun i21 e21 => ?_⟩
      have e21 := i64w e21 (by omega) (by omega)
      refine ⟨_, by omega, j + 1, by rw [e21]; rfl, by omega, rfl, o11.trans o20, fun u hu z => ?_⟩
      by_cases q : u = j
      · subst q; exact k
      · exact hb u hu (by omega)
    · exact .inr ⟨rfl, .inr ⟨rfl, fun w => k (w.ops _ (List.getElem_mem _)).a⟩, oh.trans o20⟩
  · refine ⟨.inl ⟨rfl, ⟨by omega, by omega, by omega, fun o ho => ?_⟩⟩, oh⟩
    obtain ⟨u, hu, rfl⟩ := List.mem_iff_getElem.1 ho
    exact (hb u hu (by omega)).ok
theorem scrRight23 (hk : K 11 = none) (ho : K 21 = none) (hp : K 33 = none) {s : ScrP} {p : Option Addr} {n c : Nat} (T : Ops h p n s.ops) :
    Wf Tryz.prog K 11 [.agg #[.int .i64 s.secs, .slice p n c]] h fun v h' => BoolS v (ScrOk s) ∧ Old h h' := by
  have hn := T.2.1
  have hr := T.2.2.1
  have hre : reachBytes = 140737488351232 := rfl
  refine vc_aquiferref23_Right hk _ _ _ _ h _ fun g0 e0 => ?_
  have n0 := next_of_alloc e0
  have o0 := old_of_alloc e0
  have m0 : ld1 g0 h.next 0 = some (.int .i64 s.secs) := ld1_at (get_of_alloc e0) rfl
  have m1 : ld1 g0 h.next 1 = some (.slice p n c) := ld1_at (get_of_alloc e0) rfl
  refine ⟨_, m0, fun a => ⟨.inr ⟨rfl, fun k => by have := k.lo; omega⟩, o0⟩, fun a => ⟨_, m0, fun a => ⟨.inr ⟨rfl, fun k => by have := k.hi; omega⟩, o0⟩, fun a => ⟨_, _, _, m1, fun a => ⟨.inr ⟨rfl, fun k => by have := k.len; omega⟩, o0⟩, fun a => ⟨_, _, _, m1, ?_⟩⟩⟩⟩
  refine ⟨fun i k g => ∃ j : Nat, i = j ∧ j ≤ n ∧ n - j = k ∧ Old g0 g ∧ ∀ (u : Nat) (hu : u < s.ops.length), u < j → OpA s.ops[u], ⟨_, 0, rfl, Nat.zero_le _, rfl, Old.refl _, fun u hu z => absurd z (Nat.not_lt_zero _)⟩, ?_⟩
  rintro k10 g11 i13 ⟨j, rfl, hj, rfl, o11, hb⟩
  have oh := o0.trans o11
  refine ⟨fun z => ?_, fun z => ?_⟩
  · have hjn : j < n := by omega
    obtain ⟨b, off, rfl, hj', pd, nd, cd, pk, nk, ck, hld, -, -, -, -, -, -, td, tk, -⟩ := (T.old oh).at hjn
    refine derefP_at ⟨by omega, z, _, _, _, _, _, _, _, _, _, _, hld, fun g26 e26 => ?_⟩
    obtain ⟨g27, k27, n27, o27, v27⟩ := put_new e26 (vs := [.int .i64 s.ops[j].kind, .string s.ops[j].name, .string s.ops[j].to, .int .i64 s.ops[j].n, .slice pd nd cd, .slice pk nk ck]) rfl
    have w27 := v27 [] (fun c hc => by cases hc)
    refine ⟨rfl, g27, k27, _, _, _, _, _, _, _, _, _, _, w27.ld rfl, (right23Spec ho hp s.ops[j] td.2.1 tk.2.1).mono ?_⟩
    rintro _ g39 ⟨⟨rfl, k⟩ | ⟨rfl, k⟩, o39⟩
    · refine .inl ⟨rfl, fun i40 e40 => ?_⟩
      have e40 := i64w e40 (by omega) (by omega)
      refine ⟨_, by omega, j + 1, by rw [e40]; rfl, by omega, rfl, (o11.trans o27).trans o39, fun u hu z => ?_⟩
      by_cases q : u = j
      · subst q; exact k
      · exact hb u hu (by omega)
    · exact .inr ⟨rfl, .inr ⟨rfl, fun w => k (w.ops _ (List.getElem_mem _)).a⟩, (oh.trans o27).trans o39⟩
  · refine ⟨.inl ⟨rfl, ⟨by omega, by omega, by omega, fun o ho => ?_⟩⟩, oh⟩
    obtain ⟨u, hu, rfl⟩ := List.mem_iff_getElem.1 ho
    exact (hb u hu (by omega)).ok
end
end Go.Am
