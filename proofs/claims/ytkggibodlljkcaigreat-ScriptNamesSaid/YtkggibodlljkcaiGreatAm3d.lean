/-
  THE ABSTRACT MACHINE IS SOUND: operations within a region, rounds of a range over a function.
-/
import Derived.Test.YtkggibodlljkcaiGreatAm3c
set_option linter.unusedVariables false
set_option linter.unusedSimpArgs false
namespace Go.Am
variable {P : Program} {K : Xs} {φ φ' : Fi} {h h' : AH} {w w' : World}

theorem EnvR.putAll : ∀ {ps : List Tmp} {vs vs' : List Value} {e : Env} {a : Array Value}, EnvR φ e a → AR φ vs vs' → vs.length = ps.length → (∀ d ∈ ps, d < a.size) →
    EnvR φ (putAll e ps vs) ((ps.zip vs').foldl (fun tmps p => tmps.setIfInBounds p.1 p.2) a) ∧ ((ps.zip vs').foldl (fun tmps p => tmps.setIfInBounds p.1 p.2) a).size = a.size
  | [], [], [], e, a, k, _, _, _ => ⟨k, rfl⟩
  | d :: ps, v :: vs, v' :: vs', e, a, k, r, hl, hd => by
    simp only [Am.putAll, List.zip_cons_cons, List.foldl_cons]
    have := EnvR.putAll (k.put (hd d (by simp)) r.1) r.2 (by simpa using hl) (fun x hx => by simpa using hd x (by simp [hx]))
    exact ⟨this.1, by simpa using this.2⟩
  | [], _ :: _, _, _, _, _, _, hl, _ => by simp at hl
  | _ :: _, [], _, _, _, _, _, hl, _ => by simp at hl
  | [], [], _ :: _, _, _, _, r, _, _ => r.elim
  | _ :: _, _ :: _, [], _, _, _, r, _, _ => r.elim

theorem R.loop (r : R P φ h w) {l : Nat} {L : ALoop} {rc : Rec} (hb : h.get l = some (.loop L)) (hφ : φ l = some rc) : ∃ L' : Loop, w.heap[rc.blk]? = some (.loop L') ∧ EnvR φ L.env L'.tmps ∧ L'.params.toList = L.params ∧ L'.assign = L.assign ∧ L'.body = L.body ∧ L'.pending = L.pending ∧
      L'.state = (match L.state with | .ready => .ready | .busy => .busy | .done => .done | .over => .exhausted) ∧ codeDst L'.tmps.size L.assign = true ∧ codeDst L'.tmps.size L.body = true ∧ (∀ d ∈ L.params, d < L'.tmps.size) := by
  obtain ⟨o', ho, hr⟩ := r.obj l _ rc hb hφ
  cases o' <;> simp only [OR] at hr
  exact ⟨_, ho, hr⟩
theorem getLoop_run {q : Nat} {L' : Loop} (ho : w.heap[q]? = some (.loop L')) : (Instr.getLoop q).run P w = .ok L' w := by
  simp [Instr.getLoop, getObj_run (P := P) ho (by intro _ _ _ e; cases e)]
/-- A loop's record is another one. -/
theorem Tn.setLoop (r : R P φ h w) {l : Nat} {L L2 : ALoop} {rc : Rec} {L' L2' : Loop} (hb : h.get l = some (.loop L)) (hφ : φ l = some rc) (ho : w.heap[rc.blk]? = some (.loop L')) (hr : OR P φ rc (.loop L2) (.loop L2')) :
    (setObj rc.blk (.loop L2')).run P w = .ok () { w with heap := w.heap.setIfInBounds rc.blk (.loop L2') } ∧ Tn P φ h w φ (h.set l (.loop L2)) { w with heap := w.heap.setIfInBounds rc.blk (.loop L2') } :=
  ⟨setObj_run ho (by intro _ _ _ e; cases e), Tn.put r hb hφ rfl hr 0⟩

theorem yield_sound {r : Ex} (S : SEx P r) (M : MonoEx r) {l : Nat} {args args' : List Value} {v : Value} (hs : yieldF r l args h = some (v, h')) {rc : Rec} (hφ : φ l = some rc) (ha : AR φ args args') (hr : R P φ h w) {N : Nat} (hN : h'.next ≤ N) (hF : Free φ h.next N) (c : Frame) (cs : List Frame) :
    ∃ φ' v' w', Tn P φ h w φ' h' w' ∧ VR φ' v v' ∧ ∃ fn tmps assign body, (Instr.yield rc.blk args'.toArray).run P w = .ok (.round rc.blk fn tmps assign body) w ∧
      Steps P (lone (Frame.round rc.blk fn tmps assign body .normal) (c :: cs) w) (lone (c.finish v') cs w') := by
  unfold yieldF at hs
  cases hl : h.get l with
  | none => rw [hl] at hs; simp at hs
  | some ob =>
    rw [hl] at hs
    cases ob with
    | loop L0 =>
      simp only at hs
      obtain ⟨L', ho, ke, hps, has, hbd, hpe, hst, hd1, hd2, hd3⟩ := hr.loop hl hφ
      by_cases hlen : args.length = L0.params.length
      · rw [if_pos hlen] at hs
        have hlen' : args'.toArray.size = L'.params.size := by rw [← Array.length_toList, ← Array.length_toList, hps, ← hlen]; simpa using ha.length.symm
        have hrun : (Instr.yield rc.blk args'.toArray).run P w = .ok (.round rc.blk L'.fn ((L0.params.zip args').foldl (fun tmps p => tmps.setIfInBounds p.1 p.2) L'.tmps) L0.assign L0.body) w := by
          have e1 : (L'.params.zip args'.toArray).foldl (fun tmps (p : Tmp × Value) => tmps.setIfInBounds p.1 p.2) L'.tmps = (L0.params.zip args').foldl (fun tmps p => tmps.setIfInBounds p.1 p.2) L'.tmps := by
            rw [← Array.foldl_toList, Array.toList_zip, hps]
          simp only [Instr.yield, Sem.run_bind, getLoop_run ho, Result.andThen_ok]
          rw [if_neg (by simpa using hlen')]
          simp only [Sem.run_pure]
          rw [← has, ← hbd]
          congr 2
        obtain ⟨kp, ksz⟩ := EnvR.putAll ke ha hlen hd3
        generalize htm : (L0.params.zip args').foldl (fun tmps p => tmps.setIfInBounds p.1 p.2) L'.tmps = tm at hrun kp ksz
        let b : Frame := { (default : Frame) with fn := L'.fn, kind := .normal, roundOf := some rc.blk }
        have hround : Frame.round rc.blk L'.fn tm L0.assign L0.body .normal = At b tm [] [.code L0.assign, .beginRound, .code L0.body] := rfl
        cases hr1 : r (some l) [] L0.assign (Am.putAll L0.env L0.params args) h with
        | none => rw [hr1] at hs; simp at hs
        | some y =>
          obtain ⟨x1, e2, h2⟩ := y
          rw [hr1] at hs
          cases x1 with
          | normal =>
            simp only at hs
            cases hl2 : h2.get l with
            | none => rw [hl2] at hs; simp at hs
            | some ob2 =>
              rw [hl2] at hs
              cases ob2 with
              | loop L2 =>
                simp only at hs
                by_cases hst2 : L2.state = .ready
                · rw [if_pos hst2] at hs
                  cases hr2 : r (some l) [] L0.body e2 (h2.set l (.loop { L2 with state := .busy })) with
                  | none => rw [hr2] at hs; simp at hs
                  | some z =>
                    obtain ⟨x, e4, h4⟩ := z
                    rw [hr2] at hs
                    simp only at hs
                    cases hl4 : h4.get l with
                    | none => rw [hl4] at hs; simp at hs
                    | some ob4 =>
                      rw [hl4] at hs
                      cases ob4 with
                      | loop L4 =>
                        simp only at hs
                        have hn4 : h'.next = h4.next := by
                          cases x <;> simp only [Option.some.injEq, Prod.mk.injEq] at hs <;> (rw [← hs.2]; rfl)
                        have m2 := M _ _ _ _ _ _ _ _ hr2
                        simp only [AH.next_set] at m2
                        -- the assignment
                        obtain ⟨φ1, a1, ds1, w1, t1, k1, sz1, m1, ar1⟩ := S (some l) [] L0.assign _ h .normal e2 h2 hr1 N w.heap.size φ tm w [] b [.beginRound, .code L0.body] (c :: cs) (by omega) hF kp (by rw [ksz]; exact hd1) hr ⟨rc, hφ, rfl⟩ trivial (Nat.le_refl _)
                        have hφ1 := t1.le l rc hφ
                        obtain ⟨L2', ho2, ke2, hps2, has2, hbd2, hpe2, hst2', hd21, hd22, hd23⟩ := t1.rel.loop hl2 hφ1
                        -- the round begins
                        obtain ⟨hset, tb⟩ := Tn.setLoop (L2 := { L2 with state := .busy }) (L2' := { L2' with state := .busy }) t1.rel hl2 hφ1 ho2 ⟨ke2, hps2, has2, hbd2, hpe2, rfl, hd21, hd22, hd23⟩
                        have hbegin : (Instr.beginRound rc.blk).run P w1 = .ok () { w1 with heap := w1.heap.setIfInBounds rc.blk (.loop { L2' with state := .busy }) } := by
                          rw [hst2] at hst2'
                          simp only [Instr.beginRound, Sem.run_bind, getLoop_run ho2, Result.andThen_ok, hset, hst2', Sem.run_pure]
                        have hstep : step P (lone (At b a1 ds1 [.beginRound, .code L0.body]) (c :: cs) w1) = .next (lone (At b a1 ds1 [.code L0.body]) (c :: cs) { w1 with heap := w1.heap.setIfInBounds rc.blk (.loop { L2' with state := .busy }) }) :=
                          step_lone_go (by simp [stepG, stepG.exec, stepG.apply, At, b, hbegin, Frame.finish])
                        -- the body
                        have t1b := t1.trans tb
                        obtain ⟨φ3, a3, ds3, w3, t3, k3, sz3, _, ar3⟩ := S (some l) [] L0.body e2 _ x e4 h4 hr2 N w.heap.size φ1 a1 _ ds1 b [] (c :: cs) (by omega) (hF.tn t1b) k1 (by rw [sz1, ksz]; exact hd2) tb.rel ⟨rc, hφ1, rfl⟩ (m1.tn tb) t1b.size
                        have hφ3 := t3.le l rc hφ1
                        obtain ⟨L4', ho4, ke4, hps4, has4, hbd4, hpe4, hst4, hd41, hd42, hd43⟩ := t3.rel.loop hl4 hφ3
                        have t13 := t1b.trans t3
                        have sAll : Steps P (lone (Frame.round rc.blk L'.fn tm L0.assign L0.body .normal) (c :: cs) w) (lone (At b a1 ds1 [.code L0.body]) (c :: cs) { w1 with heap := w1.heap.setIfInBounds rc.blk (.loop { L2' with state := .busy }) }) := by
                          rw [hround]
                          exact Steps.trans ar1 (.one hstep)
                        have fin : ∀ (j : Option Code) (todo : List Item), Steps P (lone (At b a1 ds1 [.code L0.body]) (c :: cs) { w1 with heap := w1.heap.setIfInBounds rc.blk (.loop { L2' with state := .busy }) }) (lone (At b a3 ds3 todo) (c :: cs) w3) →
                            (∀ w4 v4, (Instr.endRound rc.blk j).run P w3 = .ok v4 w4 → step P (lone (At b a3 ds3 todo) (c :: cs) w3) = .next (lone (c.finish v4) cs w4)) →
                            some (Value.bool j.isNone, h4.set l (.loop { L4 with state := if j.isNone then .ready else .done, pending := j })) = some (v, h') →
                            ∃ φ' v' w', Tn P φ h w φ' h' w' ∧ VR φ' v v' ∧ ∃ fn tmps assign body, (Instr.yield rc.blk args'.toArray).run P w = .ok (.round rc.blk fn tmps assign body) w ∧
                              Steps P (lone (Frame.round rc.blk fn tmps assign body .normal) (c :: cs) w) (lone (c.finish v') cs w') := by
                          intro j todo st hend hres
                          simp only [Option.some.injEq, Prod.mk.injEq] at hres
                          obtain ⟨rfl, rfl⟩ := hres
                          obtain ⟨hset4, t4⟩ := Tn.setLoop (L2 := { L4 with state := if j.isNone then .ready else .done, pending := j }) (L2' := { L4' with state := if j.isNone then .ready else .done, pending := j }) t3.rel hl4 hφ3 ho4
                            ⟨ke4, hps4, has4, hbd4, rfl, by cases j <;> rfl, hd41, hd42, hd43⟩
                          have hrunE : (Instr.endRound rc.blk j).run P w3 = .ok (.bool j.isNone) { w3 with heap := w3.heap.setIfInBounds rc.blk (.loop { L4' with state := if j.isNone then .ready else .done, pending := j }) } := by
                            simp only [Instr.endRound, Sem.run_bind, getLoop_run ho4, Result.andThen_ok, hset4, Sem.run_pure]
                          exact ⟨φ3, _, _, t13.trans t4, .bool _, _, _, _, _, hrun, (sAll.trans st).trans (.one (hend _ _ hrunE))⟩
                        cases x with
                        | normal =>
                          refine fin none [] ar3 (fun w4 v4 he => ?_) hs
                          exact step_lone_go (by simp [stepG, stepG.exec, At, b, he, doReturn])
                        | exit id =>
                          obtain ⟨k', s3, hex⟩ := ar3
                          refine fin (some (.exit id)) _ s3 (fun w4 v4 he => ?_) hs
                          have hex' : exitTo id k' = none := by rw [hex]; rfl
                          exact step_lone_go (by simp [stepG, stepG.exec, At, b, he, doReturn, hex'])
                        | ret =>
                          obtain ⟨k', s3⟩ := ar3
                          refine fin (some .ret) _ s3 (fun w4 v4 he => ?_) hs
                          exact step_lone_go (by simp [stepG, stepG.exec, At, b, he, doReturn])
                      | _ => simp at hs
                · rw [if_neg hst2] at hs; simp at hs
              | _ => simp at hs
          | _ => simp at hs
      · rw [if_neg hlen] at hs; simp at hs
    | _ => simp at hs

theorem opIn_sound {r : Ex} (G : Good P) (X : GoodX P K) (S : SEx P r) (M : MonoEx r) : SOp P K r := by
  intro o e h v h' hs N φ a w ds b k cs ops i rest hN hF ke hr ho hw
  unfold runOp at hs
  split at hs
  · rename_i fo args ats hop
    have hnd : ∀ c, o.op ≠ .defer c := fun c e => by rw [hop] at e; cases e
    have hx := VR.eval ke fo
    have hargs := AR.map ke args.toList
    unfold invokeF at hs
    split at hs
    · rename_i g first cap hev
      rw [hev] at hx
      obtain ⟨fn', first', cap', hv', hfr, hf1, hf2⟩ := hx.funcAR
      cases hfr
      have hall := (hf1.append hargs).append hf2
      have e1 : ((first'.toList ++ args.toList.map (rho a)) ++ cap'.toList).toArray = (first' ++ args.map (rho a)) ++ cap' := Array.ext' (by simp)
      unfold callX at hs
      split at hs
      · rename_i gx hk
        obtain ⟨hle, hs⟩ := grown_next hs
        obtain ⟨φ', v', w', hrun, hvr, t⟩ := X.ext g gx hk φ _ _ h w v h' hs hle (hF.mono hN) hall hr
        have hex : (execOp (rho a) o).run P w = .ok (.value v') w' := by
          rw [e1] at hrun
          simp only [execOp, hop, resolve, hv', Deferred.ofValue, Sem.run_bind, Sem.run_pure, Result.andThen_ok, invoke]
          exact hrun
        exact ⟨φ', v', w', t, hvr, .one (at_val ho hw hnd hex)⟩
      have hcs := hs
      obtain ⟨φ', v', w', fr, t, hvr, st, hfn, hlv⟩ := call_sound (K := K) G X S g _ h v h' hs N φ _ w (At b a ds (.inRegion ops (i :: rest) :: k) :: cs) hN hF hall hr
      have hen : (execOp (rho a) o).run P w = .ok (.enter g ((first'.toList ++ args.toList.map (rho a)) ++ cap'.toList).toArray) w := by
        obtain ⟨fn, c, hfn', hc⟩ := call_body X hcs
        have hname := G.name g fn hfn'
        rw [e1]
        simp only [execOp, hop, resolve, hv', Deferred.ofValue, Sem.run_bind, Sem.run_pure, Result.andThen_ok, invoke, callFunc, run_program, hfn', hname, hc]
        simp
      refine ⟨φ', v', w', t, hvr, Steps.head (at_enter ho hw hnd hen) (st.trans (.one ?_))⟩
      have e2 : At b (putT a o.dst v') ds (.inRegion ops rest :: k) = (At b a ds (.inRegion ops (i :: rest) :: k)).finish v' := by rw [finish_At, ho]; rfl
      rw [e2]
      exact step_leave_returned hlv
    · rename_i l first cap hev
      rw [hev] at hx
      obtain ⟨fn', first', cap', hv', hfr, hf1, hf2⟩ := hx.funcAR
      cases hfr with
      | yield hφ =>
        rename_i rc
        obtain ⟨φ', v', w', t, hvr, fn, tm, as, bd, hy, st⟩ := yield_sound S M hs hφ (hf1.append hargs) hr hN hF (At b a ds (.inRegion ops (i :: rest) :: k)) cs
        have hen : (execOp (rho a) o).run P w = .ok (.round rc.blk fn tm as bd) w := by
          have e1 : (first'.toList ++ args.toList.map (rho a)).toArray = first' ++ args.map (rho a) := Array.ext' (by simp)
          rw [e1] at hy
          simp only [execOp, hop, resolve, hv', Deferred.ofValue, Sem.run_bind, Sem.run_pure, Result.andThen_ok, invoke]
          exact hy
        refine ⟨φ', v', w', t, hvr, Steps.head (at_round ho hw hnd hen) (st.trans ?_)⟩
        have e2 : At b (putT a o.dst v') ds (.inRegion ops rest :: k) = (At b a ds (.inRegion ops (i :: rest) :: k)).finish v' := by rw [finish_At, ho]; rfl
        rw [e2]
        exact Steps.refl P _
    · simp at hs
  · have hnd : ∀ c, o.op ≠ .defer c := fun c e => by simp [aOp, e] at hs
    obtain ⟨φ', v', w', hv, hvr, t⟩ := op_sound G hr hs ke (fun hlt => hF h.next (Nat.le_refl _) (by omega))
    rcases hv with hv | ⟨hv, rfl⟩
    · exact ⟨φ', v', w', t, hvr, .one (at_val ho hw hnd hv)⟩
    · exact ⟨φ', undef, w', t, hvr, .one (at_none ho hw hnd hv)⟩
end Go.Am
