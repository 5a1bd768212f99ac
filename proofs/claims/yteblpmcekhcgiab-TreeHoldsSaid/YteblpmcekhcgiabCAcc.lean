/-
  NOTHING IS LOST AND NOTHING TWICE, plain: how often a sector is pointed to.
-/
import Derived.Test.YteblpmcekhcgiabCStep
import Derived.Test.YteblpmcekhcgiabAmH
set_option linter.unusedVariables false
set_option linter.unusedSimpArgs false
set_option maxRecDepth 100000
namespace Go.Am
open Go.Proofs
/-- How many of some pointers are of a kind. -/
def cq (P : Tr3 → Bool) (l : List Tr3) : Nat := l.countP P
theorem cq_app (P : Tr3 → Bool) (a b : List Tr3) : cq P (a ++ b) = cq P a + cq P b := List.countP_append
theorem cq_cons (P : Tr3 → Bool) (q : Tr3) (l : List Tr3) : cq P (q :: l) = cq P [q] + cq P l := cq_app P [q] l
theorem cq_three (P : Tr3 → Bool) (a b c : Tr3) : cq P [a, b, c] = cq P [a] + cq P [b] + cq P [c] := by rw [cq_cons, cq_cons P b]; omega
theorem cq_set {P : Tr3 → Bool} {l : List Tr3} {k : Nat} {b c : Tr3} (hb : l[k]? = some b) : cq P (l.set k c) + cq P [b] = cq P l + cq P [c] := by
  obtain ⟨hk, rfl⟩ := List.getElem?_eq_some_iff.1 hb
  have e : l = l.take k ++ [l[k]] ++ l.drop (k + 1) := by
    rw [← List.take_succ_eq_append_getElem hk, List.take_append_drop]
  have e2 : l.set k c = l.take k ++ [c] ++ l.drop (k + 1) := by
    rw [List.set_eq_take_append_cons_drop, if_pos hk, List.append_assoc]
    rfl
  have h1 : cq P l = cq P (l.take k) + cq P [l[k]] + cq P (l.drop (k + 1)) := by
    rw [← cq_app, ← cq_app, ← e]
  rw [e2, cq_app, cq_app, h1]
  omega
theorem cq_flat {P : Tr3 → Bool} {f g : Nat → List Tr3} {a A B : Nat} (h : ∀ j, j ≠ a → f j = g j) (ha : cq P (f a) + A = cq P (g a) + B) : ∀ n, (a < n → cq P ((List.range n).flatMap f) + A = cq P ((List.range n).flatMap g) + B) ∧ (n ≤ a → cq P ((List.range n).flatMap f) = cq P ((List.range n).flatMap g))
  | 0 => ⟨fun z => absurd z (Nat.not_lt_zero _), fun _ => rfl⟩
  | n + 1 => by
    obtain ⟨h1, h2⟩ := cq_flat h ha n
    have e : ∀ k : Nat → List Tr3, cq P ((List.range (n + 1)).flatMap k) = cq P ((List.range n).flatMap k) + cq P (k n) := fun k => by
      rw [List.range_succ, List.flatMap_append, cq_app]
      simp
    rw [e f, e g]
    constructor
    · intro z
      by_cases q : n = a
      · subst q
        have := h2 (Nat.le_refl _)
        omega
      · have := h1 (by omega)
        rw [h n q]
        omega
    · intro z
      rw [h n (by omega), h2 (by omega)]
theorem cq_upd {P : Tr3 → Bool} {root q3 q2 q2' b c : Tr3} {L1 : List Tr3} {L2 : Nat → List Tr3} {a k : Nat} (ha : a < 8) (h1 : L1[a]? = some q2) (h2 : (L2 a)[k]? = some b) :
    cq P (ordP q3 (L1.set a q2') (upd2 L2 a ((L2 a).set k c))) + cq P [b, q2, root] = cq P (ordP root L1 L2) + cq P [c, q2', q3] := by
  have hla := (List.getElem?_eq_some_iff.1 h1).1
  have hs := cq_set (P := P) (c := c) h2
  have key := (cq_flat (P := P) (f := sub (L1.set a q2') (upd2 L2 a ((L2 a).set k c))) (g := sub L1 L2) (a := a) (A := cq P [b] + cq P [q2]) (B := cq P [c] + cq P [q2']) (fun j hj => by
    unfold sub upd2
    rw [List.getElem?_set, if_neg (fun z => hj z.symm), if_neg hj]) (by
    have e1 : sub (L1.set a q2') (upd2 L2 a ((L2 a).set k c)) a = q2' :: (L2 a).set k c := by
      unfold sub upd2
      rw [List.getElem?_set, if_pos rfl, if_pos hla, if_pos rfl]
    have e2 : sub L1 L2 a = q2 :: L2 a := by unfold sub; rw [h1]
    rw [e1, e2, cq_cons P q2' _, cq_cons P q2 (L2 a)]
    omega) 8).1 ha
  have o1 : cq P (ordP q3 (L1.set a q2') (upd2 L2 a ((L2 a).set k c))) = cq P [q3] + _ := cq_cons P q3 _
  have o2 : cq P (ordP root L1 L2) = cq P [root] + _ := cq_cons P root _
  rw [o1, o2, cq_three, cq_three]
  omega
def cp (x : Nat) (l : List Tr3) : Nat := cq (fun q => decide (q ≠ hole ∧ q.1 = x)) l
def tk (M : List Nat) (x : Nat) : Nat := if M[x]? = some 2 then 1 else 0
theorem cp_app (x : Nat) (a b : List Tr3) : cp x (a ++ b) = cp x a + cp x b := cq_app _ _ _
theorem cp_cons (x : Nat) (q : Tr3) (l : List Tr3) : cp x (q :: l) = cp x [q] + cp x l := cq_cons _ _ _
theorem cp_hole (x : Nat) : cp x [hole] = 0 := by simp [cp, cq]
theorem cp_one (x : Nat) (q : Tr3) : cp x [q] = if q ≠ hole ∧ q.1 = x then 1 else 0 := by
  unfold cp cq
  rw [List.countP_singleton]
  by_cases h : q ≠ hole ∧ q.1 = x <;> simp [h]
theorem cp_noHoles (x : Nat) (l : List Tr3) : cp x (noHoles l) = cp x l := by
  unfold cp cq noHoles
  rw [List.countP_filter]
  congr 1
  funext q
  by_cases h1 : q ≠ hole <;> by_cases h2 : q.1 = x <;> simp [h1, h2]
theorem cp_three (x : Nat) (a b c : Tr3) : cp x [a, b, c] = cp x [a] + cp x [b] + cp x [c] := cq_three _ _ _ _
theorem cp_upd {root q3 q2 q2' b c : Tr3} {L1 : List Tr3} {L2 : Nat → List Tr3} {a k : Nat} (ha : a < 8) (h1 : L1[a]? = some q2) (h2 : (L2 a)[k]? = some b) (x : Nat) :
    cp x (ordP q3 (L1.set a q2') (upd2 L2 a ((L2 a).set k c))) + cp x [b, q2, root] = cp x (ordP root L1 L2) + cp x [c, q2', q3] := cq_upd ha h1 h2
/-- How many are no holes. -/
def nh (l : List Tr3) : Nat := cq (fun q => decide (q ≠ hole)) l
theorem nh_noHoles (l : List Tr3) : (noHoles l).length = nh l := by unfold noHoles nh cq; rw [List.countP_eq_length_filter]
theorem nh_three (a b c : Tr3) : nh [a, b, c] = nh [a] + nh [b] + nh [c] := cq_three _ _ _ _
theorem nh_hole : nh [hole] = 0 := by simp [nh, cq]
theorem nh_one {q : Tr3} (h : q ≠ hole) : nh [q] = 1 := by simp [nh, cq, h]
theorem nh_upd {root q3 q2 q2' b c : Tr3} {L1 : List Tr3} {L2 : Nat → List Tr3} {a k : Nat} (ha : a < 8) (h1 : L1[a]? = some q2) (h2 : (L2 a)[k]? = some b) :
    nh (ordP q3 (L1.set a q2') (upd2 L2 a ((L2 a).set k c))) + nh [b, q2, root] = nh (ordP root L1 L2) + nh [c, q2', q3] := cq_upd ha h1 h2
theorem PutsO.nh {nw nw' : List (List Nat)} {M M' : List Nat} {st : Nat} {q : Tr3} {l : List Tr3} (k : PutsO nw M st q l nw' M') : M'.count 1 + Go.Am.nh [q] = M.count 1 := by
  rcases k with ⟨-, rfl, -, rfl⟩ | ⟨-, hq, k⟩
  · rw [nh_hole]; rfl
  · rw [nh_one hq]; exact k.cnt
section
variable {nw nw' : List (List Nat)} {M M' : List Nat} {st : Nat}
theorem Puts.tk {q : Tr3} {s : List Nat} (k : Puts nw M st q s nw' M') (hq : q ≠ hole) (x : Nat) : tk M' x = Go.Am.tk M x + cp x [q] := by
  obtain ⟨i, h1, -, -, rfl, -, rfl⟩ := k
  have hi := (List.getElem?_eq_some_iff.1 h1).1
  rw [cp_one]
  unfold Go.Am.tk
  rw [List.getElem?_set]
  by_cases e : i = x
  · subst e
    rw [if_pos rfl, if_pos hi, if_pos rfl, h1, if_neg (by decide), if_pos ⟨hq, rfl⟩]
  · have e3 : (if ((i, st, crcOf s) : Tr3) ≠ hole ∧ ((i, st, crcOf s) : Tr3).1 = x then 1 else 0) = 0 := if_neg (fun z => e z.2)
    rw [if_neg e, e3]
    rfl
theorem PutsO.tk {q : Tr3} {l : List Tr3} (k : PutsO nw M st q l nw' M') (x : Nat) : tk M' x = Go.Am.tk M x + cp x [q] := by
  rcases k with ⟨-, rfl, -, rfl⟩ | ⟨-, hq, k⟩
  · rw [cp_hole]; rfl
  · exact k.tk hq x
end
/-- Marks of the sectors that are pointed to. -/
def markC (l : List Tr3) : List Value := (List.range 4096).map fun x => Value.bool (decide (0 < cp x l))
theorem markC_len (l : List Tr3) : (markC l).length = 4096 := by simp [markC]
theorem markC_nil : markC [] = List.replicate 4096 (.bool false) := by
  unfold markC
  apply List.ext_getElem?
  intro j
  rw [List.getElem?_map, List.getElem?_replicate]
  by_cases h : j < 4096
  · rw [List.getElem?_range h, if_pos h]; rfl
  · rw [List.getElem?_eq_none (by simpa using h), if_neg h]; rfl
theorem markC_get {l : List Tr3} {x : Nat} (hx : x < 4096) : (markC l)[x]? = some (.bool (decide (0 < cp x l))) := by simp [markC, hx]
theorem markC_set {l : List Tr3} {q : Tr3} (hq : q ≠ hole) (hx : q.1 < 4096) : (markC l).set q.1 (.bool true) = markC (l ++ [q]) := by
  apply List.ext_getElem?
  intro j
  rw [List.getElem?_set, markC_len]
  by_cases hj : j < 4096
  · rw [markC_get hj, markC_get hj, cp_app, cp_one]
    by_cases e : q.1 = j
    · rw [if_pos e, if_pos hx, if_pos ⟨hq, e⟩]
      have : 0 < cp j l + 1 := Nat.succ_pos _
      rw [decide_eq_true this]
    · rw [if_neg e, if_neg (fun z => e z.2), Nat.add_zero]
  · rw [if_neg (by omega), List.getElem?_eq_none (by rw [markC_len]; omega), List.getElem?_eq_none (by rw [markC_len]; omega)]
theorem self_bool {f : Nat → Bool} : ∀ {l : List Nat} {X : Prop}, X → vSelfL (l.map fun j => Value.bool (f j)) X
  | [], _, x => x
  | _ :: l, _, x => self_bool (l := l) x
/-! ## What is appended -/
theorem append_where {P : Program} {h h' : AH} {st elem : TypeId} {x : Value} {p p' : Option Addr} {n c k c' : Nat} (hu : P.underlying st = some (.slice elem)) (e : aBuiltin P h .append #[st, st] [.slice p n c, x] = some (.slice p' k c', h')) :
    p' = p ∨ ∃ b, p' = some ⟨b, 0, none⟩ ∧ h.next ≤ b := by
  rw [aBuiltin_append hu] at e
  unfold aAppend at e
  simp only [hu] at e
  repeat' split at e
  all_goals first
    | (simp only [Option.some.injEq, Prod.mk.injEq, Value.slice.injEq] at e
       obtain ⟨⟨rfl, -, -⟩, -⟩ := e
       first | exact .inl rfl | exact .inr ⟨_, rfl, Nat.le_refl _⟩)
    | cases e
theorem Grow.frN {lim : Nat} {h h' : AH} {elem : TypeId} {sz : Nat} {p : Option Addr} {n c : Nat} {cs : List Value} {F F' : List Nat} (g : Grow lim h elem sz p n c cs) (f : Fr F h h' F') (ha : ∀ a, p = some a → a.block ∉ F) : Grow lim h' elem sz p n c cs := by
  refine ⟨g.1, ?_⟩
  rcases g.2 with z | ⟨b', hp, h1, h2, h3, h4⟩
  · exact .inl z
  · exact .inr ⟨b', hp, h1, Nat.lt_of_lt_of_le h2 f.1, by rw [f.2.1 b' h2 (ha _ hp)]; exact h3, h4⟩
theorem Grow.nearN {lim b : Nat} {h h' : AH} {elem : TypeId} {sz : Nat} {p : Option Addr} {n c : Nat} {cs : List Value} (g : Grow lim h elem sz p n c cs) (k : Near b h h') (ha : ∀ a, p = some a → a.block ≠ b) : Grow lim h' elem sz p n c cs := by
  refine ⟨g.1, ?_⟩
  rcases g.2 with z | ⟨b', hp, h1, h2, h3, h4⟩
  · exact .inl z
  · exact .inr ⟨b', hp, h1, by rw [k.1]; exact h2, by rw [k.2 b' (ha _ hp)]; exact h3, h4⟩
/-- Only one's own slice was touched. -/
def Keep1 (p : Option Addr) (g g' : AH) : Prop := g.next ≤ g'.next ∧ ∀ b, b < g.next → apart p b → g'.get b = g.get b
theorem apart_of {p : Option Addr} {b : Nat} (h : ∀ a, p = some a → a.block ≠ b) : apart p b := by
  cases p with
  | none => trivial
  | some a => exact h a rfl
section
variable {h : AH} {p : Nat} {F : List Nat} {d m : Nat} {W : Nat} {nw : List (List Nat)} {M : List Nat} {st : Nat} {ba : Int}
theorem PO.keep1 {h' : AH} {pp : Option Addr} (B : PO h p F d m W nw M st ba) (k : Keep1 pp h h') (ha : ∀ a, pp = some a → a.block ∉ F) : PO h' p F d m W nw M st ba :=
  B.imp fun Fd z => z.keep k.1 fun c hc => k.2 c (z.mem_lt c hc) (apart_of fun a e q => ha a e (q ▸ hc))
theorem Mine.keep1 {g g' : AH} {F : List Nat} {b : Nat} {cs : List Value} {ty : TypeId} {pp : Option Addr} (w : Mine g F b cs ty) (k : Keep1 pp g g') (ha : ∀ a, pp = some a → a.block ≠ b) : Mine g' F b cs ty := ⟨(k.2 _ w.2.1 (apart_of ha)).trans w.1, Nat.lt_of_lt_of_le w.2.1 k.1, w.2.2⟩
/-- Pointers are appended to one's own. -/
theorem pushOld {lim : Nat} {g : AH} {pp px : Option Addr} {n c m cx : Nat} {old Y : List Tr3} (G : Grow lim g 28 3 pp n c (ptr3 old)) (hlim : lim ≤ g.next) (S : Shows g px m 3 (ptr3 Y)) (fx : px = none ∨ ∃ b off, px = some ⟨b, off, none⟩) (hr : n + m ≤ 1000000) :
    ∃ p' c' g', aBuiltin Try.prog g .append #[29, 29] [.slice pp n c, .slice px m cx] = some (.slice p' (n + m) c', g') ∧ Grow lim g' 28 3 p' (n + m) c' (ptr3 (old ++ Y)) ∧ Keep1 pp g g' ∧ (p' = pp ∨ ∃ b, p' = some ⟨b, 0, none⟩ ∧ g.next ≤ b) := by
  obtain ⟨p', c', g', k, G', ob, ap, -⟩ := G.append ePtr hlim (x := .slice px m cx) (m := m) rfl (S.firstC fx) S.1 (by unfold roomMax; omega) (by omega) ⟨_, ePtr.1⟩
  exact ⟨p', c', g', k, by rw [ptr3_app]; exact G', ⟨ob.1, ap⟩, append_where ePtr.1 k⟩
end
end Go.Am
