/-
  THE ABSTRACT MACHINE IS SOUND: regions that are drawn. The plan is kept.
-/
import Derived.Test.YtkggibodlljkcaiGreatAm3i
set_option linter.unusedVariables false
set_option linter.unusedSimpArgs false
namespace Go.Am
variable {P : Program} {K : Xs} {r : Ex} {ops : Array Oper}

theorem reread_spec {ord : List Nat} {l : List (Env × AH)} {n : Nat} {O : Nat → Oper} {E : Nat → Env} {H : Nat → AH} {V : Nat → Value}
    (hO : ∀ p, p < n → ∃ j, ord[p]? = some j ∧ ops[j]? = some (O p)) (hl : ∀ p, p ≤ n → l[p]? = some (E p, H p)) (hE : ∀ p, p < n → E (p + 1) = putO (E p) (O p).dst (V p))
    {p x : Nat} (hp : p < n) (hx : x ≤ n) (h : rereadAt P ops ord l p x = true) : Re P ops O E H V p x := by
  unfold rereadAt at h
  obtain ⟨j, h1, h2⟩ := hO p hp
  have e1 : (ord[p]?).bind (ops[·]?) = some (O p) := by rw [h1]; exact h2
  rw [e1, hl p (by omega), hl (p + 1) (by omega), hl x hx] at h
  simp only at h
  cases hw : wantedA ops (O p) (E p) with
  | none => rw [hw] at h; simp at h
  | some t =>
    rw [hw] at h
    cases t with
    | false => exact .inl hw
    | true =>
      simp only at h
      cases hd : (O p).dst with
      | none => rw [hd] at h; simp at h
      | some d =>
        rw [hd] at h
        cases ha : aOp P (O p) (E p) (H x) with
        | none => rw [ha] at h; simp at h
        | some y =>
          obtain ⟨v, h''⟩ := y
          rw [ha] at h
          simp only at h
          have := eqV_eq h
          rw [ev_tmp, hE p hp, hd, get_putO_self] at this
          simp only [Option.getD_some] at this
          subst this
          exact .inr ⟨h'', ha⟩
theorem draw_sound {r : Ex} (Op : SOp P K r) (M : MonoEx r) : SDraw P K r := by
  intro id ops e h e' h' hs N φ a w ds b k cs hN hF ke hdst hr
  unfold exDraw at hs
  cases hp : plan P ops with
  | none => rw [hp] at hs; simp at hs
  | some pl =>
    obtain ⟨ord, ps⟩ := pl
    rw [hp] at hs
    simp only at hs
    cases hl : runL P K r ops ord e h with
    | none => rw [hl] at hs; simp at hs
    | some l =>
      rw [hl] at hs
      simp only at hs
      cases hall : ps.all (fun p => rereadAt P ops ord l p.1 p.2 && rereadAt P ops ord l p.1 (p.2 + 1)) with
      | false => rw [hall] at hs; simp at hs
      | true =>
        rw [hall] at hs
        simp only at hs
        -- the plan
        unfold plan at hp
        simp only at hp
        cases hc : (isLin .any ops [] (lazyOrd P ops (Region.before ops)) && covers ops.size (lazyOrd P ops (Region.before ops)) && isLin .text ops [] (List.range ops.size) &&
            (isLin .gc ops [] (Region.linearise .gc ops 0) && covers ops.size (Region.linearise .gc ops 0))) with
        | false => rw [hc] at hp; simp at hp
        | true =>
          rw [hc] at hp
          simp only [Bool.and_eq_true] at hp hc
          obtain ⟨⟨⟨c1, c2⟩, c3⟩, c4, c5⟩ := hc
          cases hpa : pairsAll P ops (Region.before ops) (lazyOrd P ops (Region.before ops)) 0 with
          | none => rw [hpa] at hp; simp at hp
          | some ps' =>
            rw [hpa] at hp
            simp only [Option.some.injEq, Prod.mk.injEq] at hp
            obtain ⟨rfl, rfl⟩ := hp
            generalize lazyOrd P ops (Region.before ops) = ord at *
            obtain ⟨hll, hl0, hlp⟩ := runL_spec hl
            obtain ⟨hnd1, hnd2⟩ := isLin_nodup ord [] c1
            let n := ord.length
            let J : Nat → Nat := fun p => ord.getD p 0
            let O : Nat → Oper := fun p => ops.getD (J p) default
            let E : Nat → Env := fun p => (l.getD p (e, h)).1
            let H : Nat → AH := fun p => (l.getD p (e, h)).2
            have hJ : ∀ p, p < n → ord[p]? = some (J p) := fun p hp => by simp only [J]; rw [List.getD_eq_getElem?_getD, List.getElem?_eq_getElem hp]; rfl
            have hlE : ∀ p, p ≤ n → l[p]? = some (E p, H p) := fun p hp => by
              have hlt : p < l.length := by rw [hll]; omega
              simp only [E, H]
              rw [List.getD_eq_getElem?_getD, List.getElem?_eq_getElem hlt]; rfl
            have hat : ∀ p, p < n → ops[J p]? = some (O p) := fun p hp => by
              have hm := (hnd1 (J p) (List.mem_of_getElem? (hJ p hp))).2
              simp only [O]
              rw [Array.getD_eq_getD_getElem?, Array.getElem?_eq_getElem hm]; rfl
            have hV0 : ∀ p, p < n → ∃ v, E (p + 1) = putO (E p) (O p).dst v ∧
                ((wantedA ops (O p) (E p) = some true ∧ runOp P K r (O p) (E p) (H p) = some (v, H (p + 1))) ∨ (wantedA ops (O p) (E p) = some false ∧ v = undef ∧ H (p + 1) = H p)) := by
              intro p hp
              obtain ⟨o, ep, hq, v, h1, g1, g2, g3, g4⟩ := hlp p (J p) (hJ p hp)
              rw [hat p hp] at g1
              cases g1
              rw [hlE p (by omega)] at g2
              rw [hlE (p + 1) (by omega)] at g3
              simp only [Option.some.injEq, Prod.mk.injEq] at g2 g3
              obtain ⟨e1, e2⟩ := g2
              obtain ⟨e3, e4⟩ := g3
              rw [← e1, ← e2, ← e4] at g4
              rw [← e1] at e3
              exact ⟨v, e3, g4⟩
            obtain ⟨V, hV⟩ : ∃ V : Nat → Value, ∀ p, p < n → E (p + 1) = putO (E p) (O p).dst (V p) ∧
                ((wantedA ops (O p) (E p) = some true ∧ runOp P K r (O p) (E p) (H p) = some (V p, H (p + 1))) ∨ (wantedA ops (O p) (E p) = some false ∧ V p = undef ∧ H (p + 1) = H p)) :=
              ⟨fun p => if hp : p < n then (hV0 p hp).choose else undef, fun p hp => by simp only [hp, dif_pos]; exact (hV0 p hp).choose_spec⟩
            have hre : ∀ y, y ∈ ps' → y.1 < n → y.2 < n → Re P ops O E H V y.1 y.2 ∧ Re P ops O E H V y.1 (y.2 + 1) := by
              intro y hy h1 h2
              simp only [List.all_eq_true, Bool.and_eq_true] at hall
              obtain ⟨q1, q2⟩ := hall y hy
              exact ⟨reread_spec (fun p hp => ⟨J p, hJ p hp, hat p hp⟩) hlE (fun p hp => (hV p hp).1) h1 (by omega) q1, reread_spec (fun p hp => ⟨J p, hJ p hp, hat p hp⟩) hlE (fun p hp => (hV p hp).1) h1 (by omega) q2⟩
            have hpair : ∀ p q, p < q → q < n → Pair P ops J O E H V p q := by
              intro p q hpq hq
              have hp : p < n := by omega
              obtain ⟨x, hx, hx2⟩ := pairsAll_spec hpa p q (J p) (J q) hpq (hJ p hp) (hJ q hq)
              unfold pairOk at hx
              rw [hat p hp, hat q hq, Nat.zero_add, Nat.zero_add] at hx
              simp only at hx
              cases hdd : dstsApart (O p) (O q) with
              | false => rw [hdd] at hx; simp at hx
              | true =>
                rw [hdd] at hx
                have hne : ∀ d, (O p).dst = some d → (O q).dst ≠ some d := by
                  intro d h1 h2
                  unfold dstsApart at hdd
                  rw [h1, h2] at hdd
                  simp at hdd
                refine ⟨hne, ?_⟩
                cases hod : ((Region.before ops).getD (J q) 0).testBit (J p) with
                | true => exact .inl hod
                | false =>
                  rw [hod] at hx
                  cases hlk : looksEach ops (O p) (O q) with
                  | true => rw [hlk] at hx; simp at hx
                  | false =>
                    rw [hlk] at hx
                    unfold looksEach at hlk
                    simp only [Bool.or_eq_false_iff] at hlk
                    obtain ⟨k1, k2⟩ := hlk
                    refine .inr ⟨fun d hd => ?_, fun d hd => ?_, fun hq3 => ?_, fun hp3 hq2 => ?_⟩
                    · rw [hd] at k1; simpa using k1
                    · rw [hd] at k2; simpa using k2
                    · rw [hq3] at hx
                      refine ⟨fun hp3 => ?_, fun hp1 => ?_, fun hp2 => ?_⟩
                      · rw [hp3] at hx; simp at hx
                      · rw [hp1] at hx; simp at hx
                      · rw [hp2] at hx
                        simp only [Option.some.injEq] at hx
                        exact hre (p, q) (hx2 (p, q) (by rw [← hx]; simp)) hp hq
                    · rw [hp3, hq2] at hx
                      simp only [Option.some.injEq] at hx
                      exact hre (q, p) (hx2 (q, p) (by rw [← hx]; simp)) hq hp
            have T : Txt P K r ops n J O E H V := by
              refine ⟨hat, fun p hp => (hV p hp).1, fun p hp => (hV p hp).2, fun p hp => ?_, fun p q hp hq hpq => ?_, hpair⟩
              · rcases (hV p hp).2 with ⟨_, h1⟩ | ⟨_, _, h1⟩
                · exact runOp_next M h1
                · rw [h1]; exact Nat.le_refl _
              · have h1 := hJ p hp
                have h2 := hJ q hq
                rw [hpq] at h1
                have e1 := List.getElem?_eq_some_iff.1 h1
                have e2 := List.getElem?_eq_some_iff.1 h2
                obtain ⟨g1, g2⟩ := e1
                obtain ⟨g3, g4⟩ := e2
                exact (List.getElem_inj hnd2).1 (g2.trans g4.symm)
            have hH0 : H 0 = h ∧ E 0 = e := by
              have := hlE 0 (by omega)
              rw [hl0] at this
              simp only [Option.some.injEq, Prod.mk.injEq] at this
              exact ⟨this.2.symm, this.1.symm⟩
            have hHn : H n = h' ∧ E n = e' := by
              have h1 := hlE n (Nat.le_refl _)
              rw [List.getLast?_eq_getElem?, hll] at hs
              simp only [Nat.add_sub_cancel] at hs
              rw [hs] at h1
              simp only [Option.some.injEq, Prod.mk.injEq] at h1
              exact ⟨h1.2.symm, h1.1.symm⟩
            have hJs : ∀ i, i < ops.size → ∃ p, p < n ∧ J p = i := by
              intro i hi
              obtain ⟨p, hp, he⟩ := List.getElem_of_mem (covers_spec c2 i hi)
              refine ⟨p, hp, ?_⟩
              have := hJ p hp
              rw [List.getElem?_eq_getElem hp, he] at this
              simpa using this.symm
            have hszO : ∀ p, p < n → ∀ t, (O p).dst = some t → t < a.size := by
              intro p hp t ht
              simp only [codeDst, List.all_eq_true] at hdst
              have := hdst (O p) (by have := List.mem_of_getElem? (by simpa using hat p hp : ops.toList[J p]? = some (O p)); exact this)
              rw [ht] at this
              simpa [Nat.blt_eq] using this
            -- the beginning
            let w1 : World := { w with drawn := w.drawn + 1 }
            have hr1 : R P φ h w1 := hr.drew 1
            have hcur0 : ∀ b o, Cur P n O H (fun p => (Array.replicate ops.size false).getD (J p) false = true) 0 b o → h.get b = some o := by
              intro b o hc
              rcases hc with hc | ⟨p, _, hp, hd, _⟩
              · rw [hH0.1] at hc; exact hc
              · exfalso
                have : (Array.replicate ops.size false).getD (J p) false = false := by
                  rw [Array.getD_eq_getD_getElem?, Array.getElem?_replicate]
                  split <;> rfl
                rw [this] at hd
                simp at hd
            have hrep : ∀ i, ¬ (Array.replicate ops.size false).getD i false = true := by
              intro i hd
              have : (Array.replicate ops.size false).getD i false = false := by
                rw [Array.getD_eq_getD_getElem?, Array.getElem?_replicate]
                split <;> rfl
              rw [this] at hd
              simp at hd
            have M0 : Mid P n O H φ w1 (fun p => (Array.replicate ops.size false).getD (J p) false = true) 0 φ w1 := by
              refine ⟨Nat.zero_le _, fun p hp => absurd hp (Nat.not_lt_zero _), fun p _ _ _ hd => hrep _ hd, .inl rfl, fun b o rc hc => hr1.obj b o rc (hcur0 b o hc), fun b1 b2 o1 o2 r1 r2 k1 k2 => hr1.inj b1 b2 o1 o2 r1 r2 (hcur0 _ _ k1) (hcur0 _ _ k2),
                by rw [hH0.1]; exact hr1.lt, fun b hb => .inl hb, Le.refl _, Nat.le_refl _, rfl, rfl, rfl, fun _ _ _ => rfl, fun b o rc hc hφ _ => ⟨b, o, rc, by rw [hH0.1]; exact hcur0 b o hc, hφ, rfl, fun z => z⟩⟩
            have k0 : EnvD n O E V (fun p => (Array.replicate ops.size false).getD (J p) false = true) e := ⟨fun p _ hd => absurd hd (hrep _), fun d _ => by rw [hH0.2]⟩
            have hFH : Free φ (H 0).next N := by rw [hH0.1]; exact hF
            have hNH : (H n).next ≤ N := by rw [hHn.1]; exact hN
            have hcl0 : Closed ops (fun i => (Array.replicate ops.size false).getD i false = true) := fun j o hd => absurd hd (hrep j)
            have hun0 : (unl ops (Array.replicate ops.size false)).length ≤ ops.size := by
              have := List.length_filter_le (fun i => !(Array.replicate ops.size false).getD i true) (List.range ops.size)
              simpa [unl] using this
            have key : ∃ m' φ' w' e2 a', Mid P n O H φ w1 (fun p => True) m' φ' w' ∧ EnvD n O E V (fun p => True) e2 ∧ EnvR φ' e2 a' ∧ a'.size = a.size ∧
                Steps P (lone (At b a ds (.inRegion ops (Region.schedule (P.follows .mixedOrders) ops (w.tape w.drawn (.order b.fn id))) :: k)) cs w1) (lone (At b a' ds (.inRegion ops [] :: k)) cs w') := by
              have go : ∀ (md : Region.Mode) (lin : List Nat) (t : Nat), isLin md ops [] lin = true → covers ops.size lin = true → ∃ m' φ' w' e2 a', Mid P n O H φ w1 (fun p => True) m' φ' w' ∧ EnvD n O E V (fun p => True) e2 ∧ EnvR φ' e2 a' ∧ a'.size = a.size ∧
                  Steps P (lone (At b a ds (.inRegion ops (Region.linearise md ops t) :: k)) cs w1) (lone (At b a' ds (.inRegion ops [] :: k)) cs w') := fun md lin t q1 q2 =>
                run_schedule Op T hFH hNH hJs q1 (covers_spec q2) ds b k cs a.size hszO ops.size t (Array.replicate ops.size false) 0 φ w1 e a (by simp) hcl0 hun0 M0 k0 ke rfl
              unfold Region.schedule
              split
              · exact go .any ord _ c1 c2
              · split
                · exact go .text (List.range ops.size) _ c3 (by simp [covers])
                · exact go .gc _ _ c4 c5
            obtain ⟨m', φ', w', e2, a', M', k', ke', sz', st⟩ := key
            have hno : ∀ p, m' ≤ p → p < n → opKind P (O p).op ≠ 3 := fun p h1 h2 h3 => M'.high p h1 h2 h3 trivial
            have hrel := M'.rel T hFH hNH M'.mle (Nat.le_refl n) hno
            obtain ⟨i1, i2, _, _⟩ := M'.seg T hFH hNH n M'.mle (Nat.le_refl n) hno
            rw [hHn.1] at hrel i1 i2
            have kn := T.envAt n (Nat.le_refl n)
            have hee : ∀ t, e2.get t = e'.get t := by
              intro t
              rw [← hHn.2]
              by_cases hex : ∃ q, q < n ∧ (O q).dst = some t
              · obtain ⟨q, hq, hd⟩ := hex
                rw [k'.done q hq trivial t hd, kn.done q hq hq t hd]
              · rw [k'.rest t (fun p hp _ hd => hex ⟨p, hp, hd⟩), kn.rest t (fun p hp _ hd => hex ⟨p, hp, hd⟩)]
            refine ⟨φ', a', w', ⟨M'.le, ?_, ?_, hrel, M'.size, M'.os, M'.tape, M'.output, ?_, ?_⟩, fun t => by rw [← hee t]; exact ke' t, sz', Steps.head at_draw (st.trans (.one at_end))⟩
            · intro b hb
              rcases M'.dom b hb with hb | ⟨p, g1, _, g2, g3⟩
              · exact .inl hb
              · refine .inr ⟨?_, ?_⟩
                · rw [← hH0.1]; exact Nat.le_trans (T.mono 0 p (by omega) (by omega)) g2
                · rw [← hHn.1]; exact Nat.lt_of_lt_of_le g3 (T.mono (p + 1) n (by omega) (by omega))
            · rw [← hH0.1, ← hHn.1]; exact T.mono 0 n (by omega) (by omega)
            · intro c hc ho
              refine M'.keep c hc ?_
              rw [hH0.1]; exact ho
            · intro b o rc hb hφ hlt
              have := M'.old b o rc (i2 b o hb (by simp [hφ])) hφ hlt
              rw [hH0.1] at this
              exact this
end Go.Am
