/-
  THE ABSTRACT MACHINE IS SOUND: regions that are drawn. What stands while some of a region is done.
-/
import Derived.Test.YtkggibodlljkcaiGreatAm3f
set_option linter.unusedVariables false
set_option linter.unusedSimpArgs false
namespace Go.Am

theorem opKind_le (P : Program) (o : Op) : opKind P o ≤ 3 := by
  unfold opKind
  repeat' split
  all_goals omega

section
variable (P : Program) (K : Xs) (r : Ex) (ops : Array Oper) (n : Nat) (J : Nat → Nat) (O : Nat → Oper) (E : Nat → Env) (H : Nat → AH) (V : Nat → Value)
def Re (p x : Nat) : Prop := wantedA ops (O p) (E p) = some false ∨ ∃ h'', aOp P (O p) (E p) (H x) = some (V p, h'')
def Bf (q p : Nat) : Prop := ((Region.before ops).getD (J q) 0).testBit (J p) = true
def Pair (p q : Nat) : Prop :=
  (∀ d, (O p).dst = some d → (O q).dst ≠ some d) ∧
  (Bf ops J q p ∨ ((∀ d, (O p).dst = some d → d ∉ looks ops (O q)) ∧ (∀ d, (O q).dst = some d → d ∉ looks ops (O p)) ∧
    (opKind P (O q).op = 3 → opKind P (O p).op ≠ 3 ∧ opKind P (O p).op ≠ 1 ∧ (opKind P (O p).op = 2 → Re P ops O E H V p q ∧ Re P ops O E H V p (q + 1))) ∧
    (opKind P (O p).op = 3 → opKind P (O q).op = 2 → Re P ops O E H V q p ∧ Re P ops O E H V q (p + 1))))
structure Txt : Prop where
  at_ : ∀ p, p < n → ops[J p]? = some (O p)
  env : ∀ p, p < n → E (p + 1) = putO (E p) (O p).dst (V p)
  run : ∀ p, p < n → (wantedA ops (O p) (E p) = some true ∧ runOp P K r (O p) (E p) (H p) = some (V p, H (p + 1))) ∨ (wantedA ops (O p) (E p) = some false ∧ V p = undef ∧ H (p + 1) = H p)
  next : ∀ p, p < n → (H p).next ≤ (H (p + 1)).next
  inj : ∀ p q, p < n → q < n → J p = J q → p = q
  pair : ∀ p q, p < q → q < n → Pair P ops J O E H V p q
def Cur (D : Nat → Prop) (m b : Nat) (o : AObj) : Prop :=
  (H m).get b = some o ∨ ∃ p, m ≤ p ∧ p < n ∧ D p ∧ opKind P (O p).op = 1 ∧ b = (H p).next ∧ H (p + 1) = (H p).alloc o
structure Mid (φ0 : Fi) (w0 : World) (D : Nat → Prop) (m : Nat) (φ : Fi) (w : World) : Prop where
  mle : m ≤ n
  low : ∀ p, p < m → (opKind P (O p).op = 1 ∨ opKind P (O p).op = 3) → D p
  high : ∀ p, m ≤ p → p < n → opKind P (O p).op = 3 → ¬ D p
  last : m = 0 ∨ (opKind P (O (m - 1)).op = 3 ∧ D (m - 1))
  obj : ∀ b o rc, Cur P n O H D m b o → φ b = some rc → ∃ o', w.heap[rc.blk]? = some o' ∧ OR P φ rc o o'
  inj : ∀ b1 b2 o1 o2 r1 r2, Cur P n O H D m b1 o1 → Cur P n O H D m b2 o2 → φ b1 = some r1 → φ b2 = some r2 → r1.blk = r2.blk → b1 = b2
  lt : ∀ b o, (H m).get b = some o → b < (H m).next
  dom : ∀ b, φ b ≠ none → φ0 b ≠ none ∨ ∃ p, p < n ∧ D p ∧ (H p).next ≤ b ∧ b < (H (p + 1)).next
  le : Le φ0 φ
  size : w0.heap.size ≤ w.heap.size
  os : w.os = w0.os
  tape : w.tape = w0.tape
  output : w.output = w0.output
  keep : ∀ c, c < w0.heap.size → ¬ Own φ0 (H 0) c → w.heap[c]? = w0.heap[c]?
  old : ∀ b o rc, Cur P n O H D m b o → φ b = some rc → rc.blk < w0.heap.size → ∃ b0 o0 r0, (H 0).get b0 = some o0 ∧ φ0 b0 = some r0 ∧ r0.blk = rc.blk ∧ (o.ro = false → o0.ro = false)
end

section
variable {P : Program} {K : Xs} {r : Ex} {ops : Array Oper} {n : Nat} {J : Nat → Nat} {O : Nat → Oper} {E : Nat → Env} {H : Nat → AH} {V : Nat → Value}
variable {φ0 φ φ' : Fi} {w0 w w' : World} {D : Nat → Prop} {m : Nat}

theorem Txt.mono (T : Txt P K r ops n J O E H V) : ∀ (p q : Nat), p ≤ q → q ≤ n → (H p).next ≤ (H q).next := by
  intro p q hpq hq
  induction q with
  | zero => simp at hpq; subst hpq; exact Nat.le_refl _
  | succ q ih =>
    rcases Nat.lt_or_ge q p with h | h
    · have : p = q + 1 := by omega
      subst this; exact Nat.le_refl _
    · exact Nat.le_trans (ih h (by omega)) (T.next q (by omega))
theorem Txt.disjoint (T : Txt P K r ops n J O E H V) {p q b : Nat} (hp : p < n) (hq : q < n) (h1 : (H p).next ≤ b) (h2 : b < (H (p + 1)).next) (h3 : (H q).next ≤ b) (h4 : b < (H (q + 1)).next) : p = q := by
  rcases Nat.lt_trichotomy p q with h | h | h
  · have := T.mono (p + 1) q (by omega) (by omega); omega
  · exact h
  · have := T.mono (q + 1) p (by omega) (by omega); omega
theorem Txt.grow (T : Txt P K r ops n J O E H V) {p : Nat} (hp : p < n) (hk : opKind P (O p).op ≠ 3) : ∃ x, H (p + 1) = allocO (H p) x ∧ (opKind P (O p).op ≠ 1 → x = none) := by
  rcases T.run p hp with ⟨_, hr⟩ | ⟨_, _, hr⟩
  · rw [runOp_aOp _ hk] at hr
    by_cases h2 : opKind P (O p).op = 2
    · exact ⟨none, kind_read h2 hr, fun _ => rfl⟩
    · have := opKind_le P (O p).op
      obtain ⟨x, h3, h4, _⟩ := kind_local (by omega) hr
      exact ⟨x, h3, fun h5 => h4 (by omega)⟩
  · exact ⟨none, hr, fun _ => rfl⟩

/-- From what stands at m, over operations that do not write. -/
theorem Mid.seg (T : Txt P K r ops n J O E H V) {N : Nat} (hF : Free φ0 (H 0).next N) (hN : (H n).next ≤ N) (M : Mid P n O H φ0 w0 D m φ w) : ∀ (q : Nat), m ≤ q → q ≤ n → (∀ p, m ≤ p → p < q → opKind P (O p).op ≠ 3) →
    (∀ b o, (H q).get b = some o → b < (H q).next) ∧ (∀ b o, (H q).get b = some o → φ b ≠ none → Cur P n O H D m b o) ∧ (∀ b o, (H m).get b = some o → (H q).get b = some o) ∧
    (∀ p o, m ≤ p → p < q → opKind P (O p).op = 1 → H (p + 1) = (H p).alloc o → (H q).get (H p).next = some o) := by
  intro q
  induction q with
  | zero =>
    intro h1 h2 h3
    have : m = 0 := by omega
    subst this
    exact ⟨M.lt, fun b o hb _ => .inl hb, fun _ _ hb => hb, fun p o _ hp => by omega⟩
  | succ q ih =>
    intro h1 h2 h3
    rcases Nat.lt_or_ge q m with hqm | hqm
    · have : m = q + 1 := by omega
      subst this
      exact ⟨M.lt, fun b o hb _ => .inl hb, fun _ _ hb => hb, fun p o _ hp => by omega⟩
    obtain ⟨i1, i2, i3, i4⟩ := ih hqm (by omega) (fun p hp hp2 => h3 p hp (by omega))
    obtain ⟨x, hx, hx1⟩ := T.grow (show q < n by omega) (h3 q hqm (by omega))
    cases x with
    | none =>
      simp only [allocO] at hx
      rw [hx]
      refine ⟨i1, i2, i3, fun p o hp hp2 hk ha => ?_⟩
      rcases Nat.lt_or_ge p q with hlt | hge
      · exact i4 p o hp hlt hk ha
      · have : p = q := by omega
        subst this
        rw [hx] at ha
        have := congrArg AH.next ha
        simp at this
    | some ob =>
      simp only [allocO] at hx
      have hk1 : opKind P (O q).op = 1 := by
        by_cases hq : opKind P (O q).op = 1
        · exact hq
        · exact absurd (hx1 hq) (by simp)
      have hget : ∀ b o, (H (q + 1)).get b = some o → (b = (H q).next ∧ o = ob) ∨ (b ≠ (H q).next ∧ (H q).get b = some o) := by
        intro b o hb
        rw [hx, AH.get_alloc] at hb
        by_cases hbn : b = (H q).next
        · simp [hbn] at hb; exact .inl ⟨hbn, hb.symm⟩
        · rw [if_neg hbn] at hb; exact .inr ⟨hbn, hb⟩
      have hkeep : ∀ b o, (H q).get b = some o → (H (q + 1)).get b = some o := by
        intro b o hb
        have := i1 b o hb
        rw [hx, AH.get_alloc, if_neg (by omega)]
        exact hb
      have hnx : (H (q + 1)).next = (H q).next + 1 := by rw [hx]; simp
      refine ⟨fun b o hb => ?_, fun b o hb hφ => ?_, fun b o hb => hkeep b o (i3 b o hb), fun p o hp hp2 hk ha => ?_⟩
      · rcases hget b o hb with ⟨rfl, _⟩ | ⟨_, hb⟩
        · omega
        · have := i1 b o hb; omega
      · rcases hget b o hb with ⟨rfl, rfl⟩ | ⟨_, hb⟩
        · refine .inr ⟨q, hqm, by omega, ?_, hk1, rfl, hx⟩
          rcases M.dom _ hφ with hφ0 | ⟨p, hp, hd, g1, g2⟩
          · exfalso
            have e1 := T.mono 0 q (by omega) (by omega)
            have e2 := T.mono (q + 1) n (by omega) (by omega)
            exact hφ0 (hF _ e1 (by omega))
          · have := T.disjoint hp (show q < n by omega) g1 g2 (Nat.le_refl _) (by omega)
            rw [← this]; exact hd
        · exact i2 b o hb hφ
      · rcases Nat.lt_or_ge p q with hlt | hge
        · exact hkeep _ _ (i4 p o hp hlt hk ha)
        · have : p = q := by omega
          subst this
          rw [ha, AH.get_alloc]
          simp
/-- The relation stands at a place ahead of which nothing writes. -/
theorem Mid.rel (T : Txt P K r ops n J O E H V) {N : Nat} (hF : Free φ0 (H 0).next N) (hN : (H n).next ≤ N) (M : Mid P n O H φ0 w0 D m φ w) {q : Nat} (h1 : m ≤ q) (h2 : q ≤ n) (h3 : ∀ p, m ≤ p → p < q → opKind P (O p).op ≠ 3) :
    R P φ (H q) w := by
  obtain ⟨i1, i2, _, _⟩ := M.seg T hF hN q h1 h2 h3
  exact ⟨fun b o rc hb hφ => M.obj b o rc (i2 b o hb (by simp [hφ])) hφ,
    fun b1 b2 o1 o2 r1 r2 g1 g2 k1 k2 e => M.inj b1 b2 o1 o2 r1 r2 (i2 b1 o1 g1 (by simp [k1])) (i2 b2 o2 g2 (by simp [k2])) k1 k2 e, i1⟩

/-- What stands behind a step from such a place: the new blocks, and those made since, at places from h2.next on. -/
def Nx (P : Program) (n : Nat) (O : Nat → Oper) (H : Nat → AH) (D : Nat → Prop) (q : Nat) (h2 : AH) (b : Nat) (o : AObj) : Prop :=
  h2.get b = some o ∨ ∃ p, q ≤ p ∧ p < n ∧ D p ∧ opKind P (O p).op = 1 ∧ b = (H p).next ∧ H (p + 1) = (H p).alloc o ∧ h2.next ≤ b
theorem Mid.stepOn (T : Txt P K r ops n J O E H V) {N : Nat} (hF : Free φ0 (H 0).next N) (hN : (H n).next ≤ N) (M : Mid P n O H φ0 w0 D m φ w) {q : Nat} (h1 : m ≤ q) (h2 : q ≤ n) (h3 : ∀ p, m ≤ p → p < q → opKind P (O p).op ≠ 3)
    {hh : AH} (t : Tn P φ (H q) w φ' hh w') :
    (∀ b o rc, Nx P n O H D q hh b o → φ' b = some rc → ∃ o', w'.heap[rc.blk]? = some o' ∧ OR P φ' rc o o') ∧
    (∀ b1 b2 o1 o2 r1 r2, Nx P n O H D q hh b1 o1 → Nx P n O H D q hh b2 o2 → φ' b1 = some r1 → φ' b2 = some r2 → r1.blk = r2.blk → b1 = b2) ∧
    (∀ b o rc, Nx P n O H D q hh b o → φ' b = some rc → rc.blk < w0.heap.size → ∃ b0 o0 r0, (H 0).get b0 = some o0 ∧ φ0 b0 = some r0 ∧ r0.blk = rc.blk ∧ (o.ro = false → o0.ro = false)) := by
  obtain ⟨i1, i2, _, _⟩ := M.seg T hF hN q h1 h2 h3
  -- a block made since
  have later : ∀ b o rc p, q ≤ p → p < n → D p → opKind P (O p).op = 1 → b = (H p).next → H (p + 1) = (H p).alloc o → hh.next ≤ b → φ' b = some rc →
      φ b = some rc ∧ Cur P n O H D m b o ∧ ∃ o', w.heap[rc.blk]? = some o' ∧ OR P φ rc o o' := by
    intro b o rc p g1 g2 g3 g4 g5 g6 g7 hφ'
    have hc : Cur P n O H D m b o := .inr ⟨p, by omega, g2, g3, g4, g5, g6⟩
    have hφ : φ b = some rc := by
      rcases t.new b (by simp [hφ']) with hq | hq
      · cases hb : φ b with
        | none => exact absurd hb hq
        | some r2 => have := t.le b r2 hb; rw [hφ'] at this; exact this.symm
      · omega
    exact ⟨hφ, hc, M.obj b o rc hc hφ⟩
  have apart : ∀ b o rc, b ≥ hh.next → Cur P n O H D m b o → φ b = some rc → ∀ b' o' r', (H q).get b' = some o' → φ b' = some r' → r'.blk ≠ rc.blk := by
    intro b o rc hb hc hφ b' o' r' hb' hφ' e
    have := M.inj b' b o' o r' rc (i2 b' o' hb' (by simp [hφ'])) hc hφ' hφ e
    have l1 := i1 b' o' hb'
    have l2 := t.nle
    omega
  refine ⟨?_, ?_, ?_⟩
  · intro b o rc hn hφ'
    rcases hn with hb | ⟨p, g1, g2, g3, g4, g5, g6, g7⟩
    · exact t.rel.obj b o rc hb hφ'
    · obtain ⟨hφ, hc, o', ho', hr⟩ := later b o rc p g1 g2 g3 g4 g5 g6 g7 hφ'
      refine ⟨o', ?_, hr.mono t.le⟩
      rw [t.keep rc.blk (Array.getElem?_eq_some_iff.1 ho').1 ?_]
      · exact ho'
      · rintro ⟨b', o2, r2, k1, k2, k3, _⟩
        exact apart b o rc g7 hc hφ b' o2 r2 k1 k2 k3
  · have mixed : ∀ b1 b2 o1 o2 r1 r2, hh.get b1 = some o1 → (∃ p, q ≤ p ∧ p < n ∧ D p ∧ opKind P (O p).op = 1 ∧ b2 = (H p).next ∧ H (p + 1) = (H p).alloc o2 ∧ hh.next ≤ b2) → φ' b1 = some r1 → φ' b2 = some r2 → r1.blk = r2.blk → False := by
      intro b1 b2 o1 o2 r1 r2 hb ⟨p, g1, g2, g3, g4, g5, g6, g7⟩ k1 k2 e
      obtain ⟨hφ, hc, o', ho', hr⟩ := later b2 o2 r2 p g1 g2 g3 g4 g5 g6 g7 k2
      obtain ⟨b0, o0, r0, l1, l2, l3, _⟩ := t.old b1 o1 r1 hb k1 (by rw [e]; exact (Array.getElem?_eq_some_iff.1 ho').1)
      exact apart b2 o2 r2 g7 hc hφ b0 o0 r0 l1 l2 (by rw [l3, e])
    intro b1 b2 o1 o2 r1 r2 hn1 hn2 k1 k2 e
    rcases hn1 with hb1 | hp1 <;> rcases hn2 with hb2 | hp2
    · exact t.rel.inj b1 b2 o1 o2 r1 r2 hb1 hb2 k1 k2 e
    · exact (mixed b1 b2 o1 o2 r1 r2 hb1 hp2 k1 k2 e).elim
    · exact (mixed b2 b1 o2 o1 r2 r1 hb2 hp1 k2 k1 e.symm).elim
    · obtain ⟨p, g1, g2, g3, g4, g5, g6, g7⟩ := hp1
      obtain ⟨p', g1', g2', g3', g4', g5', g6', g7'⟩ := hp2
      obtain ⟨f1, c1, _⟩ := later b1 o1 r1 p g1 g2 g3 g4 g5 g6 g7 k1
      obtain ⟨f2, c2, _⟩ := later b2 o2 r2 p' g1' g2' g3' g4' g5' g6' g7' k2
      exact M.inj b1 b2 o1 o2 r1 r2 c1 c2 f1 f2 e
  · intro b o rc hn hφ' hlt
    rcases hn with hb | ⟨p, g1, g2, g3, g4, g5, g6, g7⟩
    · obtain ⟨b1, o1, r1, l1, l2, l3, l4⟩ := t.old b o rc hb hφ' (Nat.lt_of_lt_of_le hlt M.size)
      obtain ⟨b0, o0, r0, k1, k2, k3, k4⟩ := M.old b1 o1 r1 (i2 b1 o1 l1 (by simp [l2])) l2 (by rw [l3]; exact hlt)
      exact ⟨b0, o0, r0, k1, k2, k3.trans l3, fun hq => k4 (l4 hq)⟩
    · obtain ⟨hφ, hc, _⟩ := later b o rc p g1 g2 g3 g4 g5 g6 g7 hφ'
      exact M.old b o rc hc hφ hlt
/-- The keeping, on. -/
theorem Mid.keepOn (T : Txt P K r ops n J O E H V) {N : Nat} (hF : Free φ0 (H 0).next N) (hN : (H n).next ≤ N) (M : Mid P n O H φ0 w0 D m φ w) {q : Nat} (h1 : m ≤ q) (h2 : q ≤ n) (h3 : ∀ p, m ≤ p → p < q → opKind P (O p).op ≠ 3)
    {hh : AH} (t : Tn P φ (H q) w φ' hh w') : ∀ c, c < w0.heap.size → ¬ Own φ0 (H 0) c → w'.heap[c]? = w0.heap[c]? := by
  obtain ⟨i1, i2, _, _⟩ := M.seg T hF hN q h1 h2 h3
  intro c hc ho
  rw [t.keep c (Nat.lt_of_lt_of_le hc M.size), M.keep c hc ho]
  rintro ⟨b, o, rc, k1, k2, k3, k4⟩
  obtain ⟨b0, o0, r0, l1, l2, l3, l4⟩ := M.old b o rc (i2 b o k1 (by simp [k2])) k2 (by rw [k3]; exact hc)
  exact ho ⟨b0, o0, r0, l1, l2, by rw [l3, k3], l4 k4⟩

/-- One that writes is done: the next of those. -/
theorem Mid.write (T : Txt P K r ops n J O E H V) {N : Nat} (hF : Free φ0 (H 0).next N) (hN : (H n).next ≤ N) (M : Mid P n O H φ0 w0 D m φ w) {q : Nat} (hq : q < n) (h1 : m ≤ q) (h3 : ∀ p, m ≤ p → p < q → opKind P (O p).op ≠ 3)
    (hk : opKind P (O q).op = 3) (hlow : ∀ p, p < q → opKind P (O p).op = 1 → D p) (t : Tn P φ (H q) w φ' (H (q + 1)) w') : Mid P n O H φ0 w0 (fun p => p = q ∨ D p) (q + 1) φ' w' := by
  obtain ⟨s1, s2, s3⟩ := M.stepOn T hF hN h1 (by omega) h3 t
  have cur : ∀ b o, Cur P n O H (fun p => p = q ∨ D p) (q + 1) b o → Nx P n O H D q (H (q + 1)) b o := by
    intro b o hc
    rcases hc with hc | ⟨p, g1, g2, g3, g4, g5, g6⟩
    · exact .inl hc
    · refine .inr ⟨p, by omega, g2, g3.resolve_left (by omega), g4, g5, g6, ?_⟩
      rw [g5]
      exact T.mono (q + 1) p g1 (by omega)
  refine ⟨by omega, ?_, ?_, .inr ⟨by simpa using hk, .inl (by omega)⟩, fun b o rc hc => s1 b o rc (cur b o hc), fun b1 b2 o1 o2 r1 r2 c1 c2 => s2 b1 b2 o1 o2 r1 r2 (cur _ _ c1) (cur _ _ c2), t.rel.lt, ?_,
    M.le.trans t.le, Nat.le_trans M.size t.size, t.os.trans M.os, t.tape.trans M.tape, t.output.trans M.output, M.keepOn T hF hN h1 (by omega) h3 t, fun b o rc hc => s3 b o rc (cur b o hc)⟩
  · intro p hp hkp
    rcases Nat.lt_or_ge p q with hlt | hge
    · rcases hkp with hkp | hkp
      · exact .inr (hlow p hlt hkp)
      · rcases Nat.lt_or_ge p m with hpm | hpm
        · exact .inr (M.low p hpm (.inr hkp))
        · exact absurd hkp (h3 p hpm hlt)
    · exact .inl (by omega)
  · intro p hp hpn hkp hd
    rcases hd with hd | hd
    · omega
    · exact M.high p (by omega) hpn hkp hd
  · intro b hb
    rcases t.new b hb with hb | hb
    · rcases M.dom b hb with hb | ⟨p, g1, g2, g3⟩
      · exact .inl hb
      · exact .inr ⟨p, g1, .inr g2, g3⟩
    · exact .inr ⟨q, hq, .inl rfl, hb⟩
/-- One that reads is done, or that neither reads nor makes. -/
theorem Mid.read (T : Txt P K r ops n J O E H V) {N : Nat} (hF : Free φ0 (H 0).next N) (hN : (H n).next ≤ N) (M : Mid P n O H φ0 w0 D m φ w) {p q : Nat} (hp : p < n) (hk : opKind P (O p).op = 2) (h1 : m ≤ q) (h2 : q ≤ n) (h3 : ∀ p, m ≤ p → p < q → opKind P (O p).op ≠ 3)
    (t : Tn P φ (H q) w φ' (H q) w') : Mid P n O H φ0 w0 (fun x => x = p ∨ D x) m φ' w' := by
  obtain ⟨s1, s2, s3⟩ := M.stepOn T hF hN h1 h2 h3 t
  obtain ⟨i1, i2, i3, i4⟩ := M.seg T hF hN q h1 h2 h3
  have cur : ∀ b o, Cur P n O H (fun x => x = p ∨ D x) m b o → Nx P n O H D q (H q) b o := by
    intro b o hc
    rcases hc with hc | ⟨p2, g1, g2, g3, g4, g5, g6⟩
    · exact .inl (i3 b o hc)
    · have hd : D p2 := g3.resolve_left (fun e => by subst e; omega)
      rcases Nat.lt_or_ge p2 q with hlt | hge
      · exact .inl (by rw [g5]; exact i4 p2 o g1 hlt g4 g6)
      · exact .inr ⟨p2, hge, g2, hd, g4, g5, g6, by rw [g5]; exact T.mono q p2 hge (by omega)⟩
  refine ⟨M.mle, fun x hx hkx => .inr (M.low x hx hkx), ?_, M.last.imp id fun hl => ⟨hl.1, .inr hl.2⟩, fun b o rc hc => s1 b o rc (cur b o hc), fun b1 b2 o1 o2 r1 r2 c1 c2 => s2 b1 b2 o1 o2 r1 r2 (cur _ _ c1) (cur _ _ c2), M.lt, ?_,
    M.le.trans t.le, Nat.le_trans M.size t.size, t.os.trans M.os, t.tape.trans M.tape, t.output.trans M.output, M.keepOn T hF hN h1 h2 h3 t, fun b o rc hc => s3 b o rc (cur b o hc)⟩
  · intro x hx hxn hkx hd
    rcases hd with rfl | hd
    · omega
    · exact M.high x hx hxn hkx hd
  · intro b hb
    rcases t.new b hb with hb | hb
    · rcases M.dom b hb with hb | ⟨p, g1, g2, g3⟩
      · exact .inl hb
      · exact .inr ⟨p, g1, .inr g2, g3⟩
    · omega
/-- One that makes, or that does nothing to blocks, is done. -/
theorem Mid.make (T : Txt P K r ops n J O E H V) {N : Nat} (hF : Free φ0 (H 0).next N) (hN : (H n).next ≤ N) (M : Mid P n O H φ0 w0 D m φ w) {p : Nat} (hp : p < n) (hk : opKind P (O p).op = 0 ∨ opKind P (O p).op = 1) (hnd : ¬ D p)
    {x : Option AObj} (hx : H (p + 1) = allocO (H p) x) (hx0 : opKind P (O p).op = 0 → x = none) (t : Tn P φ ⟨.nil, (H p).next⟩ w φ' (allocO ⟨.nil, (H p).next⟩ x) w') : Mid P n O H φ0 w0 (fun y => y = p ∨ D y) m φ' w' := by
  have hget0 : ∀ b, (AH.mk .nil (H p).next).get b = none := fun b => rfl
  have nOwn : ∀ c, ¬ Own φ ⟨.nil, (H p).next⟩ c := fun c ⟨b, o, rc, k1, _⟩ => by rw [hget0] at k1; simp at k1
  -- what was there
  have hold : ∀ b o rc, Cur P n O H D m b o → φ' b = some rc → φ b = some rc := by
    intro b o rc hc hφ'
    rcases t.new b (by simp [hφ']) with hq | hq
    · cases hb : φ b with
      | none => exact absurd hb hq
      | some r2 => have := t.le b r2 hb; rw [hφ'] at this; exact this.symm
    · exfalso
      cases x with
      | none => simp only [allocO] at hq; omega
      | some ob =>
        have hk1 : opKind P (O p).op = 1 := by
          rcases hk with hk | hk
          · exact absurd (hx0 hk) (by simp)
          · exact hk
        have hpm : m ≤ p := by
          rcases Nat.lt_or_ge p m with h | h
          · exact absurd (M.low p h (.inl hk1)) hnd
          · exact h
        simp only [allocO, AH.next_alloc] at hq
        rcases hc with hc | ⟨p2, g1, g2, g3, g4, g5, g6⟩
        · have := M.lt b o hc
          have := T.mono m p hpm (by omega)
          omega
        · have hne : p2 ≠ p := fun e => hnd (e ▸ g3)
          have n2 : (H (p2 + 1)).next = (H p2).next + 1 := by rw [g6]; simp
          have n1 : (H (p + 1)).next = (H p).next + 1 := by rw [hx]; simp [allocO]
          exact hne (T.disjoint (b := b) g2 hp (by omega) (by omega) (by omega) (by omega))
  have split : ∀ b o, Cur P n O H (fun y => y = p ∨ D y) m b o → Cur P n O H D m b o ∨ (x = some o ∧ b = (H p).next) := by
    intro b o hc
    rcases hc with hc | ⟨p2, g1, g2, g3, g4, g5, g6⟩
    · exact .inl (.inl hc)
    · rcases g3 with rfl | g3
      · cases x with
        | none =>
          simp only [allocO] at hx
          rw [hx] at g6
          have := congrArg AH.next g6
          simp at this
        | some ob =>
          simp only [allocO] at hx
          rw [hx] at g6
          have e1 : ((H p2).alloc ob).get (H p2).next = ((H p2).alloc o).get (H p2).next := by rw [g6]
          rw [AH.get_alloc, AH.get_alloc] at e1
          simp at e1
          exact .inr ⟨by rw [e1], g5⟩
      · exact .inl (.inr ⟨p2, g1, g2, g3, g4, g5, g6⟩)
  have oldObj : ∀ b o rc, Cur P n O H D m b o → φ' b = some rc → ∃ o', w'.heap[rc.blk]? = some o' ∧ w.heap[rc.blk]? = some o' ∧ OR P φ' rc o o' := by
    intro b o rc hc hφ'
    obtain ⟨o', ho, hr⟩ := M.obj b o rc hc (hold b o rc hc hφ')
    exact ⟨o', by rw [t.keep rc.blk (Array.getElem?_eq_some_iff.1 ho).1 (nOwn _)]; exact ho, ho, hr.mono t.le⟩
  have newGet : ∀ o, x = some o → (allocO (AH.mk .nil (H p).next) x).get (H p).next = some o := by
    intro o e
    subst e
    simp only [allocO]
    rw [AH.get_alloc]
    simp
  have newBlk : ∀ o rc, x = some o → φ' (H p).next = some rc → w.heap.size ≤ rc.blk := by
    intro o rc e hφ'
    rcases Nat.lt_or_ge rc.blk w.heap.size with hlt | hge
    · obtain ⟨b0, o0, r0, l1, _⟩ := t.old _ o rc (newGet o e) hφ' hlt
      rw [hget0] at l1
      simp at l1
    · exact hge
  refine ⟨M.mle, fun y hy hky => .inr (M.low y hy hky), ?_, M.last.imp id fun hl => ⟨hl.1, .inr hl.2⟩, ?_, ?_, M.lt, ?_, M.le.trans t.le, Nat.le_trans M.size t.size, t.os.trans M.os, t.tape.trans M.tape, t.output.trans M.output, ?_, ?_⟩
  · intro y hy hyn hky hd
    rcases hd with rfl | hd
    · omega
    · exact M.high y hy hyn hky hd
  · intro b o rc hc hφ'
    rcases split b o hc with hc | ⟨e, rfl⟩
    · obtain ⟨o', h1, _, h2⟩ := oldObj b o rc hc hφ'
      exact ⟨o', h1, h2⟩
    · exact t.rel.obj _ o rc (newGet o e) hφ'
  · intro b1 b2 o1 o2 r1 r2 c1 c2 k1 k2 e
    rcases split b1 o1 c1 with c1 | ⟨e1, rfl⟩ <;> rcases split b2 o2 c2 with c2 | ⟨e2, rfl⟩
    · exact M.inj b1 b2 o1 o2 r1 r2 c1 c2 (hold _ _ _ c1 k1) (hold _ _ _ c2 k2) e
    · obtain ⟨o', _, h1, _⟩ := oldObj b1 o1 r1 c1 k1
      have := (Array.getElem?_eq_some_iff.1 h1).1
      have := newBlk o2 r2 e2 k2
      omega
    · obtain ⟨o', _, h1, _⟩ := oldObj b2 o2 r2 c2 k2
      have := (Array.getElem?_eq_some_iff.1 h1).1
      have := newBlk o1 r1 e1 k1
      omega
    · rfl
  · intro b hb
    rcases t.new b hb with hb | hb
    · rcases M.dom b hb with hb | ⟨p, g1, g2, g3⟩
      · exact .inl hb
      · exact .inr ⟨p, g1, .inr g2, g3⟩
    · refine .inr ⟨p, hp, .inl rfl, hb.1, ?_⟩
      rw [hx]
      cases x with
      | none => simp only [allocO] at hb; omega
      | some ob => simpa [allocO] using hb.2
  · intro c hc ho
    rw [t.keep c (Nat.lt_of_lt_of_le hc M.size) (nOwn c), M.keep c hc ho]
  · intro b o rc hc hφ' hlt
    rcases split b o hc with hc | ⟨e, rfl⟩
    · exact M.old b o rc hc (hold b o rc hc hφ') hlt
    · have := newBlk o rc e hφ'
      have := M.size
      omega
end
end Go.Am
