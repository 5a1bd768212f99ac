/-
  THE ABSTRACT MACHINE IS SOUND: regions that are drawn. One operation more.
-/
import Derived.Test.YtkggibodlljkcaiGreatAm3g
set_option linter.unusedVariables false
set_option linter.unusedSimpArgs false
namespace Go.Am
section
variable {P : Program} {K : Xs} {r : Ex} {ops : Array Oper} {n : Nat} {J : Nat → Nat} {O : Nat → Oper} {E : Nat → Env} {H : Nat → AH} {V : Nat → Value}
variable {φ0 φ φ' : Fi} {w0 w w' : World} {D : Nat → Prop} {m : Nat}

theorem get_putO_self (e : Env) (d : Tmp) (v : Value) : (putO e (some d) v).get d = some v := by simp [putO, Tr.get_set]
theorem get_putO_ne (e : Env) (x : Option Tmp) (d : Tmp) (v : Value) (h : x ≠ some d) : (putO e x v).get d = e.get d := by
  cases x with
  | none => rfl
  | some t => simp only [putO, Tr.get_set]; rw [if_neg (fun q => h (by rw [q]))]
structure EnvD (n : Nat) (O : Nat → Oper) (E : Nat → Env) (V : Nat → Value) (D : Nat → Prop) (e : Env) : Prop where
  done : ∀ p, p < n → D p → ∀ d, (O p).dst = some d → e.get d = some (V p)
  rest : ∀ d, (∀ p, p < n → D p → (O p).dst ≠ some d) → e.get d = (E 0).get d
theorem Txt.unlike (T : Txt P K r ops n J O E H V) {p q : Nat} (hp : p < n) (hq : q < n) (h : p ≠ q) {d : Tmp} (hd : (O p).dst = some d) : (O q).dst ≠ some d := by
  rcases Nat.lt_or_ge p q with h1 | h1
  · exact (T.pair p q h1 hq).1 d hd
  · intro h2
    exact (T.pair q p (by omega) hp).1 d h2 hd
theorem EnvD.put (T : Txt P K r ops n J O E H V) {e : Env} (k : EnvD n O E V D e) {p : Nat} (hp : p < n) (hnd : ¬ D p) : EnvD n O E V (fun x => x = p ∨ D x) (putO e (O p).dst (V p)) := by
  refine ⟨fun q hq hd d hdst => ?_, fun d hd => ?_⟩
  · by_cases hqp : q = p
    · subst hqp
      rw [hdst]
      exact get_putO_self _ _ _
    · rw [get_putO_ne _ _ _ _ (T.unlike hq hp hqp hdst)]
      exact k.done q hq (hd.resolve_left hqp) d hdst
  · rw [get_putO_ne _ _ _ _ (hd p hp (.inl rfl))]
    exact k.rest d (fun q hq hdq => hd q hq (.inr hdq))
theorem EnvD.congr {D' : Nat → Prop} {e : Env} (k : EnvD n O E V D e) (h : ∀ p, p < n → (D p ↔ D' p)) : EnvD n O E V D' e :=
  ⟨fun p hp hd => k.done p hp ((h p hp).2 hd), fun d hd => k.rest d (fun p hp hdp => hd p hp ((h p hp).1 hdp))⟩
theorem Txt.envAt (T : Txt P K r ops n J O E H V) : ∀ p, p ≤ n → EnvD n O E V (· < p) (E p) := by
  intro p
  induction p with
  | zero => exact fun _ => ⟨fun p _ h => absurd h (Nat.not_lt_zero _), fun _ _ => rfl⟩
  | succ p ih =>
    intro hp
    rw [T.env p (by omega)]
    exact (EnvD.put T (ih (by omega)) (by omega) (Nat.lt_irrefl p)).congr fun q _ => ⟨fun h => by omega, fun h => by omega⟩
/-- What one that is ready looks at is as in the text's order. -/
theorem Txt.looksEq (T : Txt P K r ops n J O E H V) {e : Env} (k : EnvD n O E V D e) {p : Nat} (hp : p < n) (hnd : ¬ D p) (hC : ∀ p q, p < n → q < n → D q → Bf ops J q p → D p) (hR : ∀ q, q < n → Bf ops J p q → D q) :
    ∀ t ∈ looks ops (O p), e.get t = (E p).get t := by
  intro t ht
  have kp := T.envAt p (by omega)
  by_cases hex : ∃ q, q < n ∧ (O q).dst = some t
  · obtain ⟨q, hq, hdst⟩ := hex
    rcases Nat.lt_trichotomy q p with hlt | heq | hgt
    · rcases (T.pair q p hlt hp).2 with hb | ⟨hb, _⟩
      · rw [k.done q hq (hR q hq hb) t hdst, kp.done q hq hlt t hdst]
      · exact absurd ht (hb t hdst)
    · subst heq
      rw [k.rest t (fun x hx hdx => T.unlike hq hx (fun e => hnd (e ▸ hdx)) hdst), kp.rest t (fun x hx hdx => T.unlike hq hx (fun e => by subst e; exact Nat.lt_irrefl _ hdx) hdst)]
    · rcases (T.pair p q hgt hq).2 with hb | ⟨_, hb, _⟩
      · have hnq : ¬ D q := fun hd => hnd (hC p q hp hq hd hb)
        rw [k.rest t (fun x hx hdx => T.unlike hq hx (fun e => hnq (e ▸ hdx)) hdst), kp.rest t (fun x hx hdx => T.unlike hq hx (fun e => by subst e; have : q < p := hdx; omega) hdst)]
      · exact absurd ht (hb t hdst)
  · have hno : ∀ q, q < n → (O q).dst ≠ some t := fun q hq hd => hex ⟨q, hq, hd⟩
    rw [k.rest t (fun x hx _ => hno x hx), kp.rest t (fun x hx _ => hno x hx)]
theorem first_write (O : Nat → Oper) (P : Program) (m : Nat) : ∀ k, (∀ p, m ≤ p → p < m + k → opKind P (O p).op ≠ 3) ∨ ∃ q, m ≤ q ∧ q < m + k ∧ opKind P (O q).op = 3 ∧ ∀ p, m ≤ p → p < q → opKind P (O p).op ≠ 3
  | 0 => .inl fun p h1 h2 => by omega
  | k + 1 => by
    rcases first_write O P m k with h | ⟨q, h1, h2, h3, h4⟩
    · by_cases hk : opKind P (O (m + k)).op = 3
      · exact .inr ⟨m + k, by omega, by omega, hk, h⟩
      · refine .inl fun p h1 h2 => ?_
        rcases Nat.lt_or_ge p (m + k) with hlt | hge
        · exact h p h1 hlt
        · have : p = m + k := by omega
          subst this
          exact hk
    · exact .inr ⟨q, h1, by omega, h3, h4⟩
theorem R.empty (x : Nat) : R P φ ⟨.nil, x⟩ w := ⟨fun b o rc h => by simp [AH.get, Tr.get_nil] at h, fun b1 b2 o1 o2 r1 r2 h => by simp [AH.get, Tr.get_nil] at h, fun b o h => by simp [AH.get, Tr.get_nil] at h⟩
theorem Mid.freeAt (T : Txt P K r ops n J O E H V) {N : Nat} (hF : Free φ0 (H 0).next N) (hN : (H n).next ≤ N) (M : Mid P n O H φ0 w0 D m φ w) {p : Nat} (hp : p < n) (hnd : ¬ D p) : Free φ (H p).next (H (p + 1)).next := by
  intro b h1 h2
  cases hb : φ b with
  | none => rfl
  | some rc =>
    exfalso
    rcases M.dom b (by simp [hb]) with hq | ⟨q, hq, hd, g1, g2⟩
    · have e1 := T.mono 0 p (by omega) (by omega)
      have e2 := T.mono (p + 1) n (by omega) (by omega)
      exact hq (hF b (by omega) (by omega))
    · have := T.disjoint hp hq h1 h2 g1 g2
      exact hnd (this ▸ hd)
theorem Mid.doOp (Op : SOp P K r) (T : Txt P K r ops n J O E H V) {N : Nat} (hF : Free φ0 (H 0).next N) (hN : (H n).next ≤ N) (M : Mid P n O H φ0 w0 D m φ w) {e : Env} {a : Array Value} (k : EnvD n O E V D e) (ke : EnvR φ e a)
    {p : Nat} (hp : p < n) (hnd : ¬ D p) (hC : ∀ p q, p < n → q < n → D q → Bf ops J q p → D p) (hR : ∀ q, q < n → Bf ops J p q → D q) (hsz : ∀ t, (O p).dst = some t → t < a.size)
    (ds : List Deferred) (b : Frame) (todo : List Item) (cs : List Frame) (rest : List Nat) :
    ∃ m' φ' a' w' e', Mid P n O H φ0 w0 (fun x => x = p ∨ D x) m' φ' w' ∧ EnvD n O E V (fun x => x = p ∨ D x) e' ∧ EnvR φ' e' a' ∧ a'.size = a.size ∧
      Steps P (lone (At b a ds (.inRegion ops (J p :: rest) :: todo)) cs w) (lone (At b a' ds (.inRegion ops rest :: todo)) cs w') := by
  have hl := T.looksEq k hp hnd hC hR
  have hw := wantedA_congr (ops := ops) (o := O p) hl
  have hev := looks_ev hl
  have hkd := EnvD.put T k hp hnd
  have hle3 := opKind_le P (O p).op
  -- nothing that writes lies between, ahead of one that writes
  have wr : opKind P (O p).op = 3 → m ≤ p ∧ (∀ q, m ≤ q → q < p → opKind P (O q).op ≠ 3) ∧ (∀ q, q < p → opKind P (O q).op = 1 → D q) := by
    intro hk
    refine ⟨?_, ?_, ?_⟩
    · rcases Nat.lt_or_ge p m with h | h
      · exact absurd (M.low p h (.inr hk)) hnd
      · exact h
    · intro q h1 h2 h3
      rcases (T.pair q p h2 hp).2 with hb | ⟨_, _, hb, _⟩
      · exact M.high q h1 (by omega) h3 (hR q (by omega) hb)
      · exact (hb hk).1 h3
    · intro q h2 h3
      rcases (T.pair q p h2 hp).2 with hb | ⟨_, _, hb, _⟩
      · exact hR q (by omega) hb
      · exact absurd h3 (hb hk).2.1
  rcases T.run p hp with ⟨hwt, hrun⟩ | ⟨hwf, hv, hsame⟩
  · rw [← hw] at hwt
    have hwanted := wanted_of ke hwt
    by_cases hk3 : opKind P (O p).op = 3
    · obtain ⟨g1, g2, g3⟩ := wr hk3
      have hr := M.rel T hF hN g1 (by omega) g2
      have hrun' : runOp P K r (O p) e (H p) = some (V p, H (p + 1)) := by rw [runOp_congr _ hev]; exact hrun
      obtain ⟨φ', v', w', t, hvr, st⟩ := Op (O p) e (H p) (V p) (H (p + 1)) hrun' (H (p + 1)).next φ a w ds b todo cs ops (J p) rest (Nat.le_refl _) (M.freeAt T hF hN hp hnd) ke hr (T.at_ p hp) hwanted
      exact ⟨p + 1, φ', _, w', _, M.write T hF hN hp g1 g2 hk3 g3 t, hkd, (ke.mono t.le).putO hsz hvr, size_putT _ _ _, st⟩
    · by_cases hk2 : opKind P (O p).op = 2
      · -- a place where it reads the same
        have hq : ∃ q, m ≤ q ∧ q ≤ n ∧ (∀ x, m ≤ x → x < q → opKind P (O x).op ≠ 3) ∧ ∃ h'', aOp P (O p) (E p) (H q) = some (V p, h'') := by
          have hre : ∀ x, Re P ops O E H V p x → ∃ h'', aOp P (O p) (E p) (H x) = some (V p, h'') := by
            intro x hx
            rcases hx with hx | hx
            · rw [hw, hx] at hwt; simp at hwt
            · exact hx
          rcases Nat.lt_or_ge p m with hpm | hpm
          · rcases M.last with hl0 | ⟨hl1, hl2⟩
            · omega
            · have hne : p ≠ m - 1 := fun e => by subst e; omega
              have hmle := M.mle
              refine ⟨m, Nat.le_refl _, M.mle, fun x h1 h2 => by omega, ?_⟩
              rcases (T.pair p (m - 1) (by omega) (by omega)).2 with hb | ⟨_, _, hb, _⟩
              · exact absurd (hC p (m - 1) hp (by omega) hl2 hb) hnd
              · have := hre _ ((hb hl1).2.2 hk2).2
                rwa [show m - 1 + 1 = m by omega] at this
          · rcases first_write O P m (p - m) with hf | ⟨q, g1, g2, g3, g4⟩
            · refine ⟨p, hpm, by omega, fun x h1 h2 => hf x h1 (by omega), ?_⟩
              rw [runOp_aOp _ hk3] at hrun
              exact ⟨_, hrun⟩
            · refine ⟨q, g1, by omega, g4, ?_⟩
              rcases (T.pair q p (by omega) hp).2 with hb | ⟨_, _, _, hb⟩
              · exact absurd (hR q (by omega) hb) (M.high q g1 (by omega) g3)
              · exact hre _ (hb g3 hk2).1
        obtain ⟨q, g1, g2, g3, h'', hq⟩ := hq
        have := kind_read hk2 hq
        subst this
        have hr := M.rel T hF hN g1 g2 g3
        have hrun' : runOp P K r (O p) e (H q) = some (V p, H q) := by rw [runOp_congr _ hev, runOp_aOp _ hk3]; exact hq
        obtain ⟨φ', v', w', t, hvr, st⟩ := Op (O p) e (H q) (V p) (H q) hrun' (H q).next φ a w ds b todo cs ops (J p) rest (Nat.le_refl _) (fun x h1 h2 => by omega) ke hr (T.at_ p hp) hwanted
        exact ⟨m, φ', _, w', _, M.read T hF hN hp hk2 g1 g2 g3 t, hkd, (ke.mono t.le).putO hsz hvr, size_putT _ _ _, st⟩
      · have hk01 : opKind P (O p).op = 0 ∨ opKind P (O p).op = 1 := by omega
        rw [runOp_aOp _ hk3] at hrun
        obtain ⟨x, hx1, hx2, hx3⟩ := kind_local hk01 hrun
        have hrun' : runOp P K r (O p) e ⟨.nil, (H p).next⟩ = some (V p, allocO ⟨.nil, (H p).next⟩ x) := by rw [runOp_congr _ hev, runOp_aOp _ hk3]; exact hx3 _ rfl
        have hnx : (allocO (AH.mk .nil (H p).next) x).next = (H (p + 1)).next := by rw [hx1]; cases x <;> simp [allocO]
        obtain ⟨φ', v', w', t, hvr, st⟩ := Op (O p) e _ (V p) _ hrun' (H (p + 1)).next φ a w ds b todo cs ops (J p) rest (by rw [hnx]; exact Nat.le_refl _) (M.freeAt T hF hN hp hnd) ke (R.empty _) (T.at_ p hp) hwanted
        exact ⟨m, φ', _, w', _, M.make T hF hN hp hk01 hnd hx1 hx2 t, hkd, (ke.mono t.le).putO hsz hvr, size_putT _ _ _, st⟩
  · rw [← hw] at hwf
    have hwanted := wanted_of ke hwf
    have st := at_opSkip (P := P) (w := w) (b := b) (a := a) (ds := ds) (k := todo) (cs := cs) (rest := rest) (T.at_ p hp) hwanted
    have kv : EnvR φ (putO e (O p).dst (V p)) (putT a (O p).dst undef) := ke.putO hsz (by rw [hv]; exact .junk _)
    by_cases hk3 : opKind P (O p).op = 3
    · obtain ⟨g1, g2, g3⟩ := wr hk3
      have hr := M.rel T hF hN g1 (by omega) g2
      exact ⟨p + 1, φ, _, w, _, M.write T hF hN hp g1 g2 hk3 g3 (by rw [hsame]; exact Tn.refl hr), hkd, kv, size_putT _ _ _, .one st⟩
    · by_cases hk2 : opKind P (O p).op = 2
      · have hr := M.rel T hF hN (Nat.le_refl m) M.mle (fun x h1 h2 => by omega)
        exact ⟨m, φ, _, w, _, M.read T hF hN hp hk2 (Nat.le_refl m) M.mle (fun x h1 h2 => by omega) (Tn.refl hr), hkd, kv, size_putT _ _ _, .one st⟩
      · have hk01 : opKind P (O p).op = 0 ∨ opKind P (O p).op = 1 := by omega
        exact ⟨m, φ, _, w, _, M.make (x := none) T hF hN hp hk01 hnd hsame (fun _ => rfl) (Tn.refl (R.empty _)), hkd, kv, size_putT _ _ _, .one st⟩
end
end Go.Am
