/-
  THE ABSTRACT MACHINE IS SOUND: regions that are drawn. The plan, the schedule.
-/
import Derived.Test.YtkggibodlljkcaiGreatAm3h
import Derived.Orders
set_option linter.unusedVariables false
set_option linter.unusedSimpArgs false
namespace Go.Am
section
variable {P : Program} {K : Xs} {r : Ex} {ops : Array Oper} {n : Nat} {J : Nat → Nat} {O : Nat → Oper} {E : Nat → Env} {H : Nat → AH} {V : Nat → Value}
variable {φ0 φ φ' : Fi} {w0 w w' : World} {D : Nat → Prop} {m : Nat}

/-! ## The schedule -/
theorem binds_any {md : Region.Mode} {e : Edge} (h : Region.binds .any e = true) : Region.binds md e = true := by
  unfold Region.binds at h ⊢
  cases hg : e.ground <;> rw [hg] at h <;> first | rfl | (simp at h; done) | (simp at h ⊢; done)
def unl (ops : Array Oper) (listed : Array Bool) : List Nat := (List.range ops.size).filter fun i => !listed.getD i true
theorem filter_lt {p q : Nat → Bool} : ∀ {l : List Nat}, (∀ x ∈ l, p x = true → q x = true) → (∃ x ∈ l, q x = true ∧ p x = false) → (l.filter p).length < (l.filter q).length
  | [], _, ⟨x, hx, _⟩ => by simp at hx
  | a :: l, h1, ⟨x, hx, h2, h3⟩ => by
    have hle : ∀ (l : List Nat), (∀ x ∈ l, p x = true → q x = true) → (l.filter p).length ≤ (l.filter q).length := by
      intro l
      induction l with
      | nil => intro _; simp
      | cons a l ih =>
        intro h
        have := ih (fun x hx => h x (by simp [hx]))
        simp only [List.filter_cons]
        cases hpa : p a with
        | true => rw [h a (by simp) hpa]; simp; exact this
        | false => cases q a <;> simp <;> omega
    simp only [List.filter_cons]
    by_cases hxa : x = a
    · subst hxa
      rw [h2, h3]
      have := hle l (fun x hx => h1 x (by simp [hx]))
      simp
      omega
    · have ih := filter_lt (l := l) (fun x hx => h1 x (by simp [hx])) ⟨x, by simpa [hxa] using hx, h2, h3⟩
      cases hpa : p a with
      | true => rw [h1 a (by simp) hpa]; simp; exact ih
      | false => cases q a <;> simp <;> omega
theorem unl_set {listed : Array Bool} {i : Nat} (hi : i < ops.size) (hl : listed.getD i true = false) (hs : listed.size = ops.size) : (unl ops (listed.setIfInBounds i true)).length < (unl ops listed).length := by
  refine filter_lt (fun x hx hp => ?_) ⟨i, by simpa using hi, by rw [hl]; rfl, ?_⟩
  · by_cases hxi : i = x
    · subst hxi
      rw [hl]; rfl
    · rw [getD_set_ne true hxi] at hp; exact hp
  · have : (listed.setIfInBounds i true).getD i true = true := by simp [hs, hi]
    rw [this]; rfl
theorem isLin_ready {md : Region.Mode} {listed : Array Bool} (hs : listed.size = ops.size) : ∀ (l seen : List Nat), isLin md ops seen l = true → (∀ x ∈ seen, listed.getD x false = true) → (∃ j ∈ l, listed.getD j false = false) →
    ∃ j, j ∈ Region.ready md ops listed
  | [], _, _, _, ⟨j, hj, _⟩ => by simp at hj
  | j :: l, seen, hlin, hsn, ⟨x, hx, hxl⟩ => by
    simp only [isLin, Bool.and_eq_true] at hlin
    obtain ⟨⟨h1, _⟩, h3⟩ := hlin
    by_cases hj : listed.getD j false = true
    · refine isLin_ready hs l (j :: seen) h3 (fun y hy => ?_) ⟨x, ?_, hxl⟩
      · rcases List.mem_cons.1 hy with rfl | hy
        · exact hj
        · exact hsn y hy
      · rcases List.mem_cons.1 hx with rfl | hx
        · rw [hj] at hxl; simp at hxl
        · exact hx
    · cases ho : ops[j]? with
      | none => rw [ho] at h1; simp at h1
      | some o =>
        rw [ho] at h1
        simp only [List.all_eq_true] at h1
        have hlt : j < listed.size := by rw [hs]; exact (Array.getElem?_eq_some_iff.1 ho).1
        refine ⟨j, mem_ready.2 ⟨?_, o, ho, fun e he hb => ?_⟩⟩
        · simp [hlt] at hj ⊢
          exact hj
        · have := h1 e (by simpa using he)
          rw [hb] at this
          exact hsn _ (by simpa using this)
theorem not_ready {md : Region.Mode} {listed : Array Bool} (hs : listed.size = ops.size) {l : List Nat} (hlin : isLin md ops [] l = true) (hcov : ∀ i, i < ops.size → i ∈ l) (hr : Region.ready md ops listed = []) : ∀ i, i < ops.size → listed.getD i false = true := by
  intro i hi
  cases hb : listed.getD i false with
  | true => rfl
  | false =>
    obtain ⟨j, hj⟩ := isLin_ready hs l [] hlin (fun _ h => by simp at h) ⟨i, hcov i hi, hb⟩
    rw [hr] at hj
    simp at hj

theorem Mid.congr {D' : Nat → Prop} (M : Mid P n O H φ0 w0 D m φ w) (h : ∀ p, p < n → (D p ↔ D' p)) : Mid P n O H φ0 w0 D' m φ w := by
  have hc : ∀ b o, Cur P n O H D' m b o → Cur P n O H D m b o := fun b o hc => hc.imp id fun ⟨p, g1, g2, g3, g4⟩ => ⟨p, g1, g2, (h p g2).2 g3, g4⟩
  refine ⟨M.mle, fun p hp hk => (h p (Nat.lt_of_lt_of_le hp M.mle)).1 (M.low p hp hk), fun p h1 h2 hk hd => M.high p h1 h2 hk ((h p h2).2 hd), ?_, fun b o rc k => M.obj b o rc (hc b o k), fun b1 b2 o1 o2 r1 r2 k1 k2 => M.inj b1 b2 o1 o2 r1 r2 (hc _ _ k1) (hc _ _ k2),
    M.lt, fun b hb => (M.dom b hb).imp id fun ⟨p, g1, g2, g3⟩ => ⟨p, g1, (h p g1).1 g2, g3⟩, M.le, M.size, M.os, M.tape, M.output, M.keep, fun b o rc k => M.old b o rc (hc b o k)⟩
  rcases M.last with hl | ⟨h1, h2⟩
  · exact .inl hl
  · rcases Nat.eq_zero_or_pos m with h0 | h0
    · exact .inl h0
    · have := M.mle
      exact .inr ⟨h1, (h (m - 1) (by omega)).1 h2⟩

theorem run_schedule (Op : SOp P K r) (T : Txt P K r ops n J O E H V) {N : Nat} (hF : Free φ0 (H 0).next N) (hN : (H n).next ≤ N) (hJ : ∀ i, i < ops.size → ∃ p, p < n ∧ J p = i)
    {md : Region.Mode} {lin : List Nat} (hlin : isLin md ops [] lin = true) (hcov : ∀ i, i < ops.size → i ∈ lin) (ds : List Deferred) (b : Frame) (todo : List Item) (cs : List Frame) (sz : Nat) (hsz : ∀ p, p < n → ∀ t, (O p).dst = some t → t < sz) :
    ∀ (fuel t : Nat) (listed : Array Bool) (m : Nat) (φ : Fi) (w : World) (e : Env) (a : Array Value), listed.size = ops.size → Closed ops (fun i => listed.getD i false = true) → (unl ops listed).length ≤ fuel →
      Mid P n O H φ0 w0 (fun p => listed.getD (J p) false = true) m φ w → EnvD n O E V (fun p => listed.getD (J p) false = true) e → EnvR φ e a → a.size = sz →
      ∃ m' φ' w' e' a', Mid P n O H φ0 w0 (fun p => True) m' φ' w' ∧ EnvD n O E V (fun p => True) e' ∧ EnvR φ' e' a' ∧ a'.size = sz ∧
        Steps P (lone (At b a ds (.inRegion ops (Region.linearise.go md ops fuel t listed []) :: todo)) cs w) (lone (At b a' ds (.inRegion ops [] :: todo)) cs w') := by
  have atEnd : ∀ (listed : Array Bool) (m : Nat) (φ : Fi) (w : World) (e : Env) (a : Array Value), (∀ i, i < ops.size → listed.getD i false = true) →
      Mid P n O H φ0 w0 (fun p => listed.getD (J p) false = true) m φ w → EnvD n O E V (fun p => listed.getD (J p) false = true) e → EnvR φ e a → a.size = sz →
      ∃ m' φ' w' e' a', Mid P n O H φ0 w0 (fun p => True) m' φ' w' ∧ EnvD n O E V (fun p => True) e' ∧ EnvR φ' e' a' ∧ a'.size = sz ∧
        Steps P (lone (At b a ds (.inRegion ops [] :: todo)) cs w) (lone (At b a' ds (.inRegion ops [] :: todo)) cs w') := by
    intro listed m φ w e a hall M k ke has
    have hi : ∀ p, p < n → (listed.getD (J p) false = true ↔ True) := fun p hp => ⟨fun _ => trivial, fun _ => hall _ (Array.getElem?_eq_some_iff.1 (T.at_ p hp)).1⟩
    exact ⟨m, φ, w, e, a, M.congr hi, k.congr hi, ke, has, Steps.refl P _⟩
  intro fuel
  induction fuel with
  | zero =>
    intro t listed m φ w e a hls hcl hun M k ke has
    refine atEnd listed m φ w e a (fun i hi => ?_) M k ke has
    have hnil : unl ops listed = [] := List.length_eq_zero_iff.1 (by omega)
    cases hb : listed.getD i false with
    | true => rfl
    | false =>
      have hlt : i < listed.size := by omega
      have hm : i ∈ unl ops listed := by
        simp only [unl, List.mem_filter, List.mem_range]
        refine ⟨hi, ?_⟩
        simp [hlt] at hb ⊢
        exact hb
      rw [hnil] at hm
      simp at hm
  | succ fuel ih =>
    intro t listed m φ w e a hls hcl hun M k ke has
    simp only [Region.linearise.go]
    change ∃ m' φ' w' e' a', _ ∧ _ ∧ _ ∧ _ ∧ Steps P (lone (At b a ds (.inRegion ops (match (Region.ready md ops listed)[t % (Region.ready md ops listed).length]? with
      | some i => Region.linearise.go md ops fuel (t / (Region.ready md ops listed).length) (listed.setIfInBounds i true) [i]
      | none => [].reverse) :: todo)) cs w) _
    cases hi : (Region.ready md ops listed)[t % (Region.ready md ops listed).length]? with
    | none =>
      have hnil : Region.ready md ops listed = [] := by
        cases hr : Region.ready md ops listed with
        | nil => rfl
        | cons x xs =>
          rw [hr] at hi
          have hlt : t % (x :: xs).length < (x :: xs).length := Nat.mod_lt _ (by simp)
          simp at hi
          simp at hlt
          omega
      exact atEnd listed m φ w e a (not_ready hls hlin hcov hnil) M k ke has
    | some i =>
      simp only []
      rw [linearise_go_acc, List.reverse_singleton, List.singleton_append]
      have hrd := List.mem_of_getElem? hi
      obtain ⟨hun0, o, ho, hedge⟩ := mem_ready.1 hrd
      have hio := (Array.getElem?_eq_some_iff.1 ho).1
      obtain ⟨p, hp, rfl⟩ := hJ i hio
      have hnl : ¬ listed.getD (J p) false = true := by
        have hlt : J p < listed.size := by omega
        intro hq
        simp [hlt] at hq hun0
        rw [hq] at hun0
        simp at hun0
      have hC : ∀ x y, x < n → y < n → listed.getD (J y) false = true → Bf ops J y x → listed.getD (J x) false = true := fun x y _ _ hd hb => hcl.bit (J y) (J x) hd hb
      have hR : ∀ q, q < n → Bf ops J p q → listed.getD (J q) false = true := by
        intro q hq hb
        obtain ⟨o', ho', e', he', h1, h2⟩ := before_why ops (J p) (J q) hb
        have hoo : o' = o := by
          have : ops[J p]? = some o' := by simpa using ho'
          rw [ho] at this
          simpa using this.symm
        subst hoo
        have hon := hedge e' he' (binds_any h1)
        rcases h2 with h2 | ⟨_, h2⟩
        · rw [← h2]; exact hon
        · exact hcl.bit e'.on (J q) hon h2
      obtain ⟨m1, φ1, a1, w1, e1, M1, k1, ke1, hs1, st1⟩ := M.doOp Op T hF hN k ke hp hnl hC hR (fun t ht => by rw [has]; exact hsz p hp t ht) ds b todo cs (Region.linearise.go md ops fuel (t / (Region.ready md ops listed).length) (listed.setIfInBounds (J p) true) [])
      have hiff : ∀ x, x < n → ((x = p ∨ listed.getD (J x) false = true) ↔ (listed.setIfInBounds (J p) true).getD (J x) false = true) := by
        intro x hx
        by_cases hxp : x = p
        · subst hxp
          simp [hls, hio]
        · have hne : J p ≠ J x := fun e => hxp (T.inj p x hp hx e).symm
          rw [getD_set_ne false hne]
          simp [hxp]
      have hcl1 : Closed ops (fun i => (listed.setIfInBounds (J p) true).getD i false = true) := by
        intro j o2 hj ho2 e2 he2 hb2
        by_cases hjp : J p = j
        · subst hjp
          rw [ho] at ho2
          cases ho2
          exact getD_set_true (hedge e2 he2 (binds_any hb2))
        · rw [getD_set_ne false hjp] at hj
          exact getD_set_true (hcl j o2 hj ho2 e2 he2 hb2)
      have hu := unl_set hio hun0 hls
      obtain ⟨m', φ', w', e', a', g1, g2, g3, g4, g5⟩ := ih (t / (Region.ready md ops listed).length) (listed.setIfInBounds (J p) true) m1 φ1 w1 e1 a1 (by simp [hls]) hcl1 (by omega) (M1.congr hiff) (k1.congr hiff) ke1 (by rw [hs1, has])
      exact ⟨m', φ', w', e', a', g1, g2, g3, g4, st1.trans g5⟩

/-! ## The plan -/
theorem ba_eq {a b : ByteArray} (h : (a == b) = true) : a = b := by
  cases a; cases b
  have : (_ : Array UInt8) == _ := h
  simpa using this
theorem eqS_eq {a b : Value} (h : eqS a b = true) : a = b := by
  unfold eqS at h
  split at h
  · simp at h; simp [h]
  · simp at h; simp [h]
  · rw [ba_eq h]
  · simp at h; simp [h]
  · simp at h; simp [h]
  · simp at h; simp [h]
  all_goals first | rfl | (simp at h; done)
theorem eqL_eq : ∀ {a b : List Value}, eqL a b = true → a = b
  | [], [], _ => rfl
  | x :: a, y :: b, h => by
    simp only [eqL, Bool.and_eq_true] at h
    rw [eqS_eq h.1, eqL_eq h.2]
  | [], _ :: _, h => by simp [eqL] at h
  | _ :: _, [], h => by simp [eqL] at h
theorem eqV_eq {a b : Value} (h : eqV a b = true) : a = b := by
  unfold eqV at h
  split at h
  · rw [Array.ext' (eqL_eq h)]
  · rw [Array.ext' (eqL_eq h)]
  · exact eqS_eq h
theorem runL_spec {r : Ex} : ∀ {os : List Nat} {e : Env} {h : AH} {l : List (Env × AH)}, runL P K r ops os e h = some l → l.length = os.length + 1 ∧ l[0]? = some (e, h) ∧
    ∀ p j, os[p]? = some j → ∃ o ep hp v h1, ops[j]? = some o ∧ l[p]? = some (ep, hp) ∧ l[p + 1]? = some (putO ep o.dst v, h1) ∧
      ((wantedA ops o ep = some true ∧ runOp P K r o ep hp = some (v, h1)) ∨ (wantedA ops o ep = some false ∧ v = undef ∧ h1 = hp))
  | [], e, h, l, hs => by
    simp only [runL, Option.some.injEq] at hs
    subst hs
    exact ⟨rfl, rfl, fun p j hp => by simp at hp⟩
  | j0 :: os, e, h, l, hs => by
    unfold runL at hs
    cases ho : ops[j0]? with
    | none => rw [ho] at hs; simp at hs
    | some o =>
      rw [ho] at hs
      simp only at hs
      have fin : ∀ v h1 l2, runL P K r ops os (putO e o.dst v) h1 = some l2 → l = (e, h) :: l2 → ((wantedA ops o e = some true ∧ runOp P K r o e h = some (v, h1)) ∨ (wantedA ops o e = some false ∧ v = undef ∧ h1 = h)) →
          l.length = (j0 :: os).length + 1 ∧ l[0]? = some (e, h) ∧
          ∀ p j, (j0 :: os)[p]? = some j → ∃ o ep hp v h1, ops[j]? = some o ∧ l[p]? = some (ep, hp) ∧ l[p + 1]? = some (putO ep o.dst v, h1) ∧
            ((wantedA ops o ep = some true ∧ runOp P K r o ep hp = some (v, h1)) ∨ (wantedA ops o ep = some false ∧ v = undef ∧ h1 = hp)) := by
        intro v h1 l2 hl2 hl hwt
        subst hl
        obtain ⟨g1, g2, g3⟩ := runL_spec hl2
        refine ⟨by simp [g1], rfl, fun p j hp => ?_⟩
        cases p with
        | zero =>
          simp only [List.getElem?_cons_zero, Option.some.injEq] at hp
          subst hp
          exact ⟨o, e, h, v, h1, ho, rfl, by simpa using g2, hwt⟩
        | succ p =>
          obtain ⟨o', ep, hp', v', h1', k1, k2, k3, k4⟩ := g3 p j (by simpa using hp)
          exact ⟨o', ep, hp', v', h1', k1, by simpa using k2, by simpa using k3, k4⟩
      cases hw : wantedA ops o e with
      | none => rw [hw] at hs; simp at hs
      | some t =>
        rw [hw] at hs
        cases t with
        | true =>
          simp only at hs
          cases hr : runOp P K r o e h with
          | none => rw [hr] at hs; simp at hs
          | some y =>
            obtain ⟨v, h1⟩ := y
            rw [hr] at hs
            simp only at hs
            cases hl : runL P K r ops os (putO e o.dst v) h1 with
            | none => rw [hl] at hs; simp at hs
            | some l2 =>
              rw [hl] at hs
              simp only [Option.some.injEq] at hs
              exact fin v h1 l2 hl hs.symm (.inl ⟨hw, hr⟩)
        | false =>
          simp only at hs
          cases hl : runL P K r ops os (putO e o.dst undef) h with
          | none => rw [hl] at hs; simp at hs
          | some l2 =>
            rw [hl] at hs
            simp only [Option.some.injEq] at hs
            exact fin undef h l2 hl hs.symm (.inr ⟨hw, rfl, rfl⟩)
theorem pairsFrom_spec {bf : Array Nat} {ia pa : Nat} : ∀ {l : List Nat} {pb : Nat} {ps : List (Nat × Nat)}, pairsFrom P ops bf ia pa l pb = some ps → ∀ i ib, l[i]? = some ib → ∃ x, pairOk P ops bf ia ib pa (pb + i) = some x ∧ ∀ y ∈ x, y ∈ ps
  | [], _, _, _, i, ib, hi => by simp at hi
  | b :: l, pb, ps, hs, i, ib, hi => by
    unfold pairsFrom at hs
    split at hs
    · rename_i x y hx hy
      simp only [Option.some.injEq] at hs
      subst hs
      cases i with
      | zero =>
        simp only [List.getElem?_cons_zero, Option.some.injEq] at hi
        subst hi
        exact ⟨x, hx, fun y hy => by simp [hy]⟩
      | succ i =>
        obtain ⟨z, hz, hz2⟩ := pairsFrom_spec hy i ib (by simpa using hi)
        exact ⟨z, by rw [← hz]; congr 1; omega, fun q hq => by simp [hz2 q hq]⟩
    · simp at hs
theorem pairsAll_spec {bf : Array Nat} : ∀ {l : List Nat} {pa : Nat} {ps : List (Nat × Nat)}, pairsAll P ops bf l pa = some ps → ∀ i j ia ib, i < j → l[i]? = some ia → l[j]? = some ib → ∃ x, pairOk P ops bf ia ib (pa + i) (pa + j) = some x ∧ ∀ y ∈ x, y ∈ ps
  | [], _, _, _, i, j, ia, ib, _, hi, _ => by simp at hi
  | a :: l, pa, ps, hs, i, j, ia, ib, hij, hi, hj => by
    unfold pairsAll at hs
    split at hs
    · rename_i x y hx hy
      simp only [Option.some.injEq] at hs
      subst hs
      obtain ⟨j', rfl⟩ : ∃ j', j = j' + 1 := ⟨j - 1, by omega⟩
      cases i with
      | zero =>
        simp only [List.getElem?_cons_zero, Option.some.injEq] at hi
        subst hi
        obtain ⟨z, hz, hz2⟩ := pairsFrom_spec hx j' ib (by simpa using hj)
        exact ⟨z, by rw [← hz]; congr 1; omega, fun q hq => by simp [hz2 q hq]⟩
      | succ i =>
        obtain ⟨z, hz, hz2⟩ := pairsAll_spec hy i j' ia ib (by omega) (by simpa using hi) (by simpa using hj)
        exact ⟨z, by rw [← hz]; congr 1 <;> omega, fun q hq => by simp [hz2 q hq]⟩
    · simp at hs
theorem covers_spec {l : List Nat} (h : covers n l = true) : ∀ i, i < n → i ∈ l := by
  intro i hi
  simp only [covers, List.all_eq_true, List.mem_range] at h
  simpa using h i hi
theorem isLin_nodup {md : Region.Mode} : ∀ (l seen : List Nat), isLin md ops seen l = true → (∀ x ∈ l, x ∉ seen ∧ x < ops.size) ∧ l.Nodup
  | [], _, _ => ⟨fun x h => by simp at h, List.nodup_nil⟩
  | j :: l, seen, h => by
    simp only [isLin, Bool.and_eq_true] at h
    obtain ⟨⟨h1, h2⟩, h3⟩ := h
    obtain ⟨g1, g2⟩ := isLin_nodup l (j :: seen) h3
    have hj : j < ops.size := by
      cases ho : ops[j]? with
      | none => rw [ho] at h1; simp at h1
      | some o => exact (Array.getElem?_eq_some_iff.1 ho).1
    refine ⟨fun x hx => ?_, List.nodup_cons.2 ⟨fun hm => (g1 j hm).1 (by simp), g2⟩⟩
    rcases List.mem_cons.1 hx with rfl | hx
    · exact ⟨by simpa using h2, hj⟩
    · exact ⟨fun hs => (g1 x hx).1 (by simp [hs]), (g1 x hx).2⟩
end
end Go.Am
