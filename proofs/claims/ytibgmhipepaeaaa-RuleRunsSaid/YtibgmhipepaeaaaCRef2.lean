/-
  THE DOCUMENT'S ANSWERS of layer 15: records by themselves, the same records, copies.
-/
import Derived.Test.YtibgmhipepaeaaaCRef1
import Derived.Test.YtibgmhipepaeaaaCFamN
set_option linter.unusedVariables false
set_option linter.unusedSimpArgs false
set_option maxRecDepth 100000
namespace Go.Am
open Go.Proofs
/-! ## What is in a record, wherever its list lies -/
def cor (r : SetR) : SetR := { r with dp := none, dc := 0 }
theorem cor_eq {a b : SetR} (h : cor a = cor b) : a.id = b.id ∧ a.name = b.name ∧ a.snap = b.snap ∧ a.own = b.own ∧ a.prev = b.prev ∧ a.stamp = b.stamp ∧ a.blocks = b.blocks ∧ a.root = b.root ∧ a.dn = b.dn ∧ a.dead = b.dead := by
 obtain ⟨⟩ := a
 obtain ⟨⟩ := b
 simp [cor] at h
 simp
 omega
theorem cor_mk {a b : SetR} (h : a.id = b.id ∧ a.name = b.name ∧ a.snap = b.snap ∧ a.own = b.own ∧ a.prev = b.prev ∧ a.stamp = b.stamp ∧ a.blocks = b.blocks ∧ a.root = b.root ∧ a.dn = b.dn ∧ a.dead = b.dead) : cor a = cor b := by
 obtain ⟨⟩ := a
 obtain ⟨⟩ := b
 simp at h
 simp [cor]
 omega
theorem cor_at {xs ys : List SetR} (h : xs.map cor = ys.map cor) {i : Nat} {a : SetR} (ha : xs[i]? = some a) : ∃ b, ys[i]? = some b ∧ cor a = cor b := by
 have := congrArg (fun l => l[i]?) h
 simp only [List.getElem?_map, ha, Option.map_some] at this
 cases hb : ys[i]? with
 | none => rw [hb] at this; cases this
 | some b => rw [hb] at this; exact ⟨b, rfl, Option.some.inj this⟩
theorem cor_len {xs ys : List SetR} (h : xs.map cor = ys.map cor) : xs.length = ys.length := by
 have := congrArg List.length h
 simpa using this
theorem plcN_cor {xs ys : List SetR} (h : xs.map cor = ys.map cor) (id : Int) : plcN xs id = plcN ys id := by
 have e : ∀ l : List SetR, plcN l id = plcN (l.map cor) id := fun l => by
  unfold plcN
  rw [List.findIdx?_map]
  rfl
 rw [e xs, e ys, h]
theorem plcC_cor {xs ys : List SetR} (h : xs.map cor = ys.map cor) (k : Cal) : plcC xs k = plcC ys k := by
 have e : ∀ l : List SetR, plcC l k = plcC (l.map cor) k := fun l => by
  unfold plcC
  rw [List.findIdx?_map]
  rfl
 rw [e xs, e ys, h]
theorem flr_cor {xs ys : List SetR} (h : xs.map cor = ys.map cor) (id : Int) : flr xs id = flr ys id := by
 have e : ∀ l : List SetR, flr l id = flr (l.map cor) id := fun l => by
  have hp : ∀ i, plcN (l.map cor) i = plcN l i := fun i => plcN_cor (by rw [List.map_map]; exact List.map_congr_left fun a _ => rfl) i
  unfold flr
  rw [hp]
  cases plcN l id with
  | none => rfl
  | some i =>
    simp only [List.getElem?_map]
    cases l[i]? with
    | none => rfl
    | some r =>
      simp only [Option.map_some]
      show (if r.prev = 0 then (0 : Int) else _) = (if r.prev = 0 then 0 else match plcN (l.map cor) r.prev with | none => 0 | some j => match Option.map cor l[j]? with | none => 0 | some x => x.stamp)
      rw [hp]
      split
      ·rfl
      ·cases plcN l r.prev with
       | none => rfl
       | some j =>
         simp only
         cases l[j]? with
         | none => rfl
         | some x => rfl
 rw [e xs, e ys, h]
theorem filter_cor {xs ys : List SetR} (h : xs.map cor = ys.map cor) (P : SetR → Bool) (hP : ∀ a, P (cor a) = P a) {α : Type} (f : SetR → α) (hf : ∀ a, f (cor a) = f a) : (xs.filter P).map f = (ys.filter P).map f := by
 have e : ∀ l : List SetR, (l.filter P).map f = ((l.map cor).filter P).map f := fun l => by
  rw [List.filter_map, List.map_map]
  have : (P ∘ cor) = P := funext hP
  rw [this]
  exact List.map_congr_left fun a _ => (hf a).symm
 rw [e xs, e ys, h]
theorem clL_cor {xs ys : List SetR} (h : xs.map cor = ys.map cor) (id : Int) : clL xs id = clL ys id := by
 unfold clL
 rw [plcN_cor h]
 cases plcN ys id with
 | none => rfl
 | some i =>
   simp only
   cases hx : xs[i]? with
   | none =>
     have : ys[i]? = none := by rw [List.getElem?_eq_none_iff] at hx ⊢; rw [← cor_len h]; exact hx
     rw [this]
   | some r =>
     obtain ⟨r', hr', hc⟩ := cor_at h hx
     obtain ⟨-, -, h3, h4, -⟩ := cor_eq hc
     rw [hr']
     simp only [h3, h4]
     split
     ·exact filter_cor h _ (fun a => rfl) _ (fun a => rfl)
     ·rfl
theorem wayW_cor {xs ys : List SetR} (h : xs.map cor = ys.map cor) (id : Int) : ∀ (k : Nat) (pr : Int) (ch : List Int), wayW xs id k pr ch = wayW ys id k pr ch
 | 0, pr, ch => rfl
 | k + 1, pr, ch => by
   unfold wayW
   rw [plcN_cor h]
   split
   ·rfl
   ·cases plcN ys pr with
    | none => rfl
    | some i =>
      simp only
      cases hx : xs[i]? with
      | none =>
        have : ys[i]? = none := by rw [List.getElem?_eq_none_iff] at hx ⊢; rw [← cor_len h]; exact hx
        rw [this]
      | some r =>
        obtain ⟨r', hr', hc⟩ := cor_at h hx
        obtain ⟨-, -, -, h4, h5, -⟩ := cor_eq hc
        rw [hr']
        simp only [h4, h5]
        split
        ·exact wayW_cor h id k _ _
        ·rfl
theorem wayR_cor {xs ys : List SetR} (h : xs.map cor = ys.map cor) (id : Int) : wayR xs id = wayR ys id := by
 unfold wayR
 rw [plcN_cor h]
 cases plcN ys id with
 | none => rfl
 | some i =>
   simp only
   cases hx : xs[i]? with
   | none =>
     have : ys[i]? = none := by rw [List.getElem?_eq_none_iff] at hx ⊢; rw [← cor_len h]; exact hx
     rw [this]
   | some r =>
     obtain ⟨r', hr', hc⟩ := cor_at h hx
     obtain ⟨-, -, h3, -, h5, -⟩ := cor_eq hc
     rw [hr']
     simp only [h3, h5]
     split
     ·rfl
     ·exact wayW_cor h id _ _ _
theorem lookN_cor {xs ys : List SetR} (h : xs.map cor = ys.map cor) (v s : ByteArray) : lookN xs v s = lookN ys v s := by
 unfold lookN
 rw [plcC_cor h]
 cases plcC ys (0, v) with
 | none => rfl
 | some i =>
   simp only
   split
   ·rfl
   ·cases hx : xs[i]? with
    | none =>
      have : ys[i]? = none := by rw [List.getElem?_eq_none_iff] at hx ⊢; rw [← cor_len h]; exact hx
      rw [this]
    | some r =>
      obtain ⟨r', hr', hc⟩ := cor_at h hx
      obtain ⟨h1, -⟩ := cor_eq hc
      rw [hr']
      simp only [h1]
      exact plcC_cor h _
theorem hang_cor {xs ys : List SetR} (h : xs.map cor = ys.map cor) (id : Int) (i : Nat) : (hang id i xs).map (fun q => (q.1, cor q.2)) = (hang id i ys).map (fun q => (q.1, cor q.2)) := by
 have e : ∀ (l : List SetR) (i : Nat), (hang id i l).map (fun q => (q.1, cor q.2)) = hang id i (l.map cor) := fun l => by
  induction l with
  | nil => intro i; rfl
  | cons a l ih =>
    intro i
    rw [List.map_cons, hang_cons, hang_cons]
    show _ = if a.prev = id then _ else _
    split
    ·rw [List.map_cons, ih]
    ·rw [ih]
 rw [e xs, e ys, h]
theorem nextR_cor {xs ys : List SetR} (h : xs.map cor = ys.map cor) (id : Int) : nextR xs id = nextR ys id := by
 unfold nextR
 rw [plcN_cor h]
 cases plcN ys id with
 | none => rfl
 | some i =>
   simp only
   cases hx : xs[i]? with
   | none =>
     have : ys[i]? = none := by rw [List.getElem?_eq_none_iff] at hx ⊢; rw [← cor_len h]; exact hx
     rw [this]
   | some r =>
     obtain ⟨r', hr', hc⟩ := cor_at h hx
     obtain ⟨-, -, h3, h4, -⟩ := cor_eq hc
     rw [hr']
     simp only [h3, h4]
     split
     ·have e : ∀ l : List SetR, (match (hang id 0 l).find? (fun q => decide (q.2.own = r'.own)) with | none => (0 : Int) | some q => q.2.id) = (match ((hang id 0 l).map (fun q => (q.1, cor q.2))).find? (fun q => decide (q.2.own = r'.own)) with | none => 0 | some q => q.2.id) := fun l => by
       rw [List.find?_map]
       have : ((fun q : Nat × SetR => decide (q.2.own = r'.own)) ∘ fun q : Nat × SetR => (q.1, cor q.2)) = fun q => decide (q.2.own = r'.own) := rfl
       rw [this]
       cases (hang id 0 l).find? (fun q => decide (q.2.own = r'.own)) with
       | none => rfl
       | some q => rfl
      refine (e xs).trans ?_
      rw [hang_cor h]
      exact (e ys).symm
     ·rfl
/-! ## Rows of records that are one's own -/
def setsC (rs : List SetR) : List Value := (rs.map setC).flatten
theorem setC_len (r : SetR) : (setC r).length = 11 := rfl
theorem setsC_len (rs : List SetR) : (setsC rs).length = rs.length * 11 := by
 induction rs with
 | nil => rfl
 | cons r rs ih =>
   have : setsC (r :: rs) = setC r ++ setsC rs := rfl
   rw [this, List.length_append, ih, setC_len, List.length_cons]
   omega
theorem setsC_app (a b : List SetR) : setsC (a ++ b) = setsC a ++ setsC b := by simp [setsC]
theorem setsC_one (r : SetR) : setsC [r] = setC r := by simp [setsC]
theorem setsC_get : ∀ (rs : List SetR) (i : Nat) (h : i < rs.length), ((setsC rs).drop (i * 11)).take 11 = setC rs[i]
 | r :: rs, 0, h => by
   show (setC r ++ setsC rs).take 11 = setC r
   rw [List.take_append_of_le_length (by rw [setC_len]; exact Nat.le_refl _), List.take_of_length_le (by rw [setC_len]; exact Nat.le_refl _)]
 | r :: rs, i + 1, h => by
   have : setsC (r :: rs) = setC r ++ setsC rs := rfl
   rw [this, show (i + 1) * 11 = (setC r).length + i * 11 by rw [setC_len]; omega, ← List.drop_drop, List.drop_left', setsC_get rs i (by simpa using h)]
   ·rfl
   ·rfl
theorem sets_of {h : AH} {p : Option Addr} {n : Nat} {rs : List SetR} (S : Shows h p n 11 (setsC rs)) (hn : n ≤ reachBytes) (ok : ∀ r ∈ rs, SetOk h r) : Sets h p n rs := by
 have hl := S.1
 rw [setsC_len] at hl
 exact ⟨by omega, hn, _, S, fun i hi => ⟨setsC_get rs i hi, ok _ (List.getElem_mem hi)⟩⟩
theorem Sets.shows {h : AH} {p : Option Addr} {n : Nat} {rs : List SetR} (T : Sets h p n rs) : Shows h p n 11 (setsC rs) := by
 obtain ⟨h1, h2, cells, h3, h4⟩ := T
 have : cells = setsC rs := by
  have hl := h3.1
  subst h1
  clear h2 h3
  induction rs generalizing cells with
  | nil => simp at hl; subst hl; rfl
  | cons r rs ih =>
    have e0 := (h4 0 (by simp)).1
    simp only [Nat.zero_mul, List.drop_zero, List.getElem_cons_zero] at e0
    have := ih (cells := cells.drop 11) (fun i hi => by
     have := h4 (i + 1) (by simpa using hi)
     rw [List.drop_drop, show 11 + i * 11 = (i + 1) * 11 by omega]
     simpa using this) (by rw [List.length_drop, hl, List.length_cons]; omega)
    rw [← List.take_append_drop 11 cells, e0, this]
    rfl
 rw [← this]
 exact h3
theorem Sets.ok {h : AH} {p : Option Addr} {n : Nat} {rs : List SetR} (T : Sets h p n rs) : ∀ r ∈ rs, SetOk h r := fun r hr => by
 obtain ⟨i, hi⟩ := List.mem_iff_getElem?.1 hr
 obtain ⟨hl, rfl⟩ := List.getElem?_eq_some_iff.1 hi
 obtain ⟨-, -, cells, -, h4⟩ := T
 exact (h4 i hl).2
theorem eSetF : ElemOk Try.prog 34 28 11 112 := ElemOk_of (by kernel_rfl)
structure KRef15 (K : Xs) : Prop where
 r1 : KRef K
 stamp : K 81 = none
 right : K 58 = none
 same : K 27 = none
 sameList : K 34 = none
 copy : K 24 = none
section
variable {K : Xs} {h : AH} {p : Option Addr} {n c : Nat} {rs : List SetR}
theorem same15 (kk : KRef15 K) {a b : SetR} (ka : SetOk h a) (kb : SetOk h b) : Wf Try.prog K 27 [.agg (setC a).toArray, .agg (setC b).toArray] h fun v h' => BoolIs v (cor a = cor b) ∧ Old h h' := by
 refine vc_aquiferref15_Same kk.same _ _ _ _ _ _ _ _ _ _ _ _ _ _ _ _ _ _ _ _ _ _ _ _ _ _ h _ fun g0 e0 g1 e1 => ?_
 have o0 := old_of_alloc e0
 have n0 := next_of_alloc e0
 have o1 := old_of_alloc e1
 have oo := o0.trans o1
 have c0 : g1.get h.next = some (.cells (setC a) _ false) := (o1.2 _ (by omega)).trans (get_of_alloc e0)
 have c1 : g1.get g0.next = some (.cells (setC b) _ false) := get_of_alloc e1
 have no : ¬ cor a = cor b → BoolIs (.bool false) (cor a = cor b) ∧ Old h g1 := fun q => ⟨.inr ⟨rfl, q⟩, oo⟩
 have ha := ka.room
 refine ⟨_, ld1_at c0 rfl, _, ld1_at c1 rfl, fun q0 => ⟨_, ld1_at c0 rfl, _, ld1_at c1 rfl, fun q1 => ?_, fun q => no fun e => q (cor_eq e).2.1⟩, fun q => no fun e => q (cor_eq e).1⟩
 have rest : a.snap = b.snap → ∃ i6 : Int, ld1 g1 h.next 3 = some (.int .u64 i6) ∧
  (∃ i7 : Int, ld1 g1 g0.next 3 = some (.int .u64 i7) ∧
  (((i6 : Int) = i7 → ∃ i8 : Int, ld1 g1 h.next 4 = some (.int .u64 i8) ∧
  (∃ i9 : Int, ld1 g1 g0.next 4 = some (.int .u64 i9) ∧
  (((i8 : Int) = i9 → ∃ i10 : Int, ld1 g1 h.next 5 = some (.int .u64 i10) ∧
  (∃ i11 : Int, ld1 g1 g0.next 5 = some (.int .u64 i11) ∧
  (((i10 : Int) = i11 → ∃ i12 : Int, ld1 g1 h.next 6 = some (.int .i64 i12) ∧
  (∃ i13 : Int, ld1 g1 g0.next 6 = some (.int .i64 i13) ∧
  (((i12 : Int) = i13 → ∃ i14 i15 i16 : Int, ldN g1 h.next 7 3 = some ([(.int .i64 i14), (.int .u64 i15), (.int .u32 i16)] : List Value) ∧
  (∃ i17 i18 i19 : Int, ldN g1 g0.next 7 3 = some ([(.int .i64 i17), (.int .u64 i18), (.int .u32 i19)] : List Value) ∧
  (∃ la20 lb21, keyA Try.prog 25 (.agg #[(.int .i64 i14), (.int .u64 i15), (.int .u32 i16)]) = some la20 ∧ keyA Try.prog 25 (.agg #[(.int .i64 i17), (.int .u64 i18), (.int .u32 i19)]) = some lb21 ∧
  (litsEq la20 lb21 = true → ∃ (p22 : Option Addr) (n23 c24 : Nat), ld1 g1 h.next 10 = some (.slice p22 n23 c24) ∧
  (∃ (p25 : Option Addr) (n26 c27 : Nat), ld1 g1 g0.next 10 = some (.slice p25 n26 c27) ∧
  (Wf Try.prog K 39 [(.slice p22 n23 c24), (.slice p25 n26 c27)] g1 fun r28 h29 =>
  (((r28 = (.bool true) ∧
  (BoolIs (.bool true) (cor a = cor b) ∧ Old h h29)) ∨ (r28 = (.bool false) ∧
  (BoolIs (.bool false) (cor a = cor b) ∧ Old h h29))))))) ∧
  (litsEq la20 lb21 = false → BoolIs (.bool false) (cor a = cor b) ∧ Old h g1)))) ∧
  (¬ (i12 : Int) = i13 → BoolIs (.bool false) (cor a = cor b) ∧ Old h g1)))) ∧
  (¬ (i10 : Int) = i11 → BoolIs (.bool false) (cor a = cor b) ∧ Old h g1)))) ∧
  (¬ (i8 : Int) = i9 → BoolIs (.bool false) (cor a = cor b) ∧ Old h g1)))) ∧
  (¬ (i6 : Int) = i7 → BoolIs (.bool false) (cor a = cor b) ∧ Old h g1))) := fun q2 => by
  refine ⟨_, ld1_at c0 rfl, _, ld1_at c1 rfl, fun q3 => ⟨_, ld1_at c0 rfl, _, ld1_at c1 rfl, fun q4 => ⟨_, ld1_at c0 rfl, _, ld1_at c1 rfl, fun q5 => ⟨_, ld1_at c0 rfl, _, ld1_at c1 rfl, fun q6 => ⟨a.root.1, a.root.2.1, a.root.2.2, (ldN_of c0 (by simp [setC])).trans rfl, b.root.1, b.root.2.1, b.root.2.2, (ldN_of c1 (by simp [setC])).trans rfl, _, _, kPtrF ka.root.1 ka.root.2.1 ka.root.2.2, kPtrF kb.root.1 kb.root.2.1 kb.root.2.2, fun e => ⟨_, _, _, ld1_at c0 rfl, _, _, _, ld1_at c1 rfl, (same11 kk.r1 (ka.shows.old oo) ka.dead (by simp only [reachBytes] at ha; omega) (kb.shows.old oo) kb.dead).mono ?_⟩, fun e => no fun q => ?_⟩, fun q => no fun e => q (cor_eq e).2.2.2.2.2.2.1⟩, fun q => no fun e => q (cor_eq e).2.2.2.2.2.1⟩, fun q => no fun e => q (cor_eq e).2.2.2.2.1⟩, fun q => no fun e => q (cor_eq e).2.2.2.1⟩
  ·rw [lits3] at e
   have e := of_decide_eq_true e
   have er : a.root = b.root := Prod.ext e.1 (Prod.ext e.2.1 e.2.2)
   rintro _ _ ⟨⟨rfl, k⟩ | ⟨rfl, k⟩, rfl⟩
   ·exact .inl ⟨rfl, .inl ⟨rfl, cor_mk ⟨q0, q1, q2, q3, q4, q5, q6, er, by rw [ka.len, kb.len, k], k⟩⟩, oo⟩
   ·exact .inr ⟨rfl, no fun q => k (cor_eq q).2.2.2.2.2.2.2.2.2⟩
  ·rw [lits3] at e
   have e := of_decide_eq_false e
   have er := (cor_eq q).2.2.2.2.2.2.2.1
   exact e (by rw [er]; exact ⟨rfl, rfl, rfl⟩)
 cases ha2 : a.snap with
 | true =>
   refine .inl ⟨ld1_at c0 (by simp [setC, ha2]), ?_⟩
   cases hb2 : b.snap with
   | true => exact .inl ⟨ld1_at c1 (by simp [setC, hb2]), rest (by rw [ha2, hb2])⟩
   | false => exact .inr ⟨ld1_at c1 (by simp [setC, hb2]), no fun e => by have := (cor_eq e).2.2.1; rw [ha2, hb2] at this; cases this⟩
 | false =>
   refine .inr ⟨ld1_at c0 (by simp [setC, ha2]), ?_⟩
   cases hb2 : b.snap with
   | true => exact .inl ⟨ld1_at c1 (by simp [setC, hb2]), no fun e => by have := (cor_eq e).2.2.1; rw [ha2, hb2] at this; cases this⟩
   | false => exact .inr ⟨ld1_at c1 (by simp [setC, hb2]), rest (by rw [ha2, hb2])⟩
theorem sameList15 (kk : KRef15 K) {xs ys : List SetR} (S : Sets h p n xs) {p2 : Option Addr} {n2 c2 : Nat} (T : Sets h p2 n2 ys) : Wf Try.prog K 34 [.slice p n c, .slice p2 n2 c2] h fun v h' => BoolIs v (xs.map cor = ys.map cor) ∧ Old h h' := by
 have hla := S.1
 have hlb := T.1
 have hna := S.2.1
 simp only [reachBytes] at hna
 refine vc_aquiferref15_SameList kk.sameList _ _ _ _ _ _ h _ ⟨fun e => ⟨fun i k g => ∃ u : Nat, i = u ∧ u ≤ n ∧ n - u = k ∧ Old h g ∧ (xs.take u).map cor = (ys.take u).map cor, ⟨_, 0, rfl, Nat.zero_le _, rfl, Old.refl _, rfl⟩, ?_⟩, fun e => ⟨.inr ⟨rfl, fun q => e (by have := cor_len q; omega)⟩, Old.refl _⟩⟩
 rintro k1 g i4 ⟨u, rfl, hu, rfl, o, hb⟩
 refine ⟨fun z => ?_, fun z => ⟨.inl ⟨rfl, ?_⟩, o⟩⟩
 ·obtain ⟨b1, off1, rfl, hi1, hl1, -, ok1⟩ := (S.old o).at (i := u) (by omega)
  obtain ⟨b2, off2, rfl, hi2, hl2, -, ok2⟩ := (T.old o).at (i := u) (by omega)
  refine derefP_at ⟨by omega, z, _, _, _, _, _, _, _, _, _, _, _, _, _, by rw [Int.toNat_natCast]; exact hl1, derefP_at ⟨by omega, by omega, _, _, _, _, _, _, _, _, _, _, _, _, _, by rw [Int.toNat_natCast]; exact hl2, (same15 kk ok1 ok2).mono ?_⟩⟩
  rintro _ g36 ⟨⟨rfl, k⟩ | ⟨rfl, k⟩, o36⟩
  ·refine .inl ⟨rfl, fun i37 e37 => ?_⟩
   have e37 := i64w e37 (by omega) (by omega)
   refine ⟨n - (u + 1), by omega, u + 1, by omega, by omega, rfl, o.trans o36, ?_⟩
   rw [List.take_succ_eq_append_getElem hi1, List.take_succ_eq_append_getElem hi2, List.map_append, List.map_append, hb, List.map_singleton, List.map_singleton, k]
  ·refine .inr ⟨rfl, .inr ⟨rfl, fun q => k ?_⟩, o.trans o36⟩
   obtain ⟨b, h1, h2⟩ := cor_at q (List.getElem?_eq_getElem hi1)
   rw [List.getElem?_eq_getElem hi2] at h1
   cases h1
   exact h2
 ·have h1 : xs.take u = xs := List.take_of_length_le (by omega)
  have h2 : ys.take u = ys := List.take_of_length_le (by omega)
  rw [← h1, hb, h2]
theorem Shows.keep {h h' : AH} {p : Option Addr} {n sz : Nat} {cs : List Value} (s : Shows h p n sz cs) (hn : h.next ≤ h'.next) (k : ∀ a, p = some a → h'.get a.block = h.get a.block) : Shows h' p n sz cs := by
 refine ⟨s.1, ?_⟩
 rcases s.2 with h0 | ⟨b, off, al, e, ro, hp, hb, hg, hl, hc⟩
 ·exact .inl h0
 ·exact .inr ⟨b, off, al, e, ro, hp, Nat.lt_of_lt_of_le hb hn, by rw [k _ hp, hg], hl, hc⟩
theorem SetOk.keep {h h' : AH} {r : SetR} (k : SetOk h r) (hn : h.next ≤ h'.next) (q : ∀ a, r.dp = some a → h'.get a.block = h.get a.block) : SetOk h' r := { k with shows := k.shows.keep hn q }
end
end Go.Am
