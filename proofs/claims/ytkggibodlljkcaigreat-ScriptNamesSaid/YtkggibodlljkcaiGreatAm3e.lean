/-
  THE ABSTRACT MACHINE IS SOUND: code.
-/
import Derived.Test.YtkggibodlljkcaiGreatAm3d
set_option linter.unusedVariables false
set_option linter.unusedSimpArgs false
namespace Go.Am
variable {P : Program} {K : Xs} {φ φ' : Fi} {h h' : AH} {w w' : World}

theorem preKill_tn (r : R P φ h w) (ks : List Tmp) (d : Option Tmp) (e : Env) : Tn P φ h w φ (preKill ks d e h) w := by
  unfold preKill
  split
  · split
    · exact Tn.kill r _
    · exact Tn.refl r
  · exact Tn.refl r
theorem drop_range {n j : Nat} (hj : j < n) : (List.range n).drop j = j :: (List.range n).drop (j + 1) := by
  rw [List.drop_eq_getElem_cons (by simpa using hj)]
  simp
theorem runOps_sound {r : Ex} (Op : SOp P K r) (M : MonoEx r) {ks : List Tmp} {ops : Array Oper} (hd : ∀ o ∈ ops.toList, ∀ t, o.dst = some t → Nat.blt t 0 = true ∨ True) :
    ∀ (os : List Oper) (j : Nat) (e e' : Env) (h h' : AH), ops.toList.drop j = os → runOps P K r ks ops os e h = some (e', h') → ∀ (N : Nat) φ a w ds b k cs,
      h'.next ≤ N → Free φ h.next N → EnvR φ e a → (∀ o ∈ ops.toList, ∀ t, o.dst = some t → t < a.size) → R P φ h w →
      ∃ φ' a' w', Tn P φ h w φ' h' w' ∧ EnvR φ' e' a' ∧ a'.size = a.size ∧ Steps P (lone (At b a ds (.inRegion ops ((List.range ops.size).drop j) :: k)) cs w) (lone (At b a' ds (.inRegion ops [] :: k)) cs w')
  | [], j, e, e', h, h', hj, hs, N, φ, a, w, ds, b, k, cs, hN, hF, ke, hdst, hr => by
    simp only [runOps, Option.some.injEq, Prod.mk.injEq] at hs
    obtain ⟨rfl, rfl⟩ := hs
    have hlen : ops.size ≤ j := by
      have := congrArg List.length hj
      simp at this
      omega
    have : (List.range ops.size).drop j = [] := List.drop_of_length_le (by simpa using hlen)
    rw [this]
    exact ⟨φ, a, w, Tn.refl hr, ke, rfl, Steps.refl P _⟩
  | o :: os, j, e, e', h, h', hj, hs, N, φ, a, w, ds, b, k, cs, hN, hF, ke, hdst, hr => by
    have hlt : j < ops.size := by
      rcases Nat.lt_or_ge j ops.size with q | q
      · exact q
      · rw [List.drop_of_length_le (by simpa using q)] at hj; simp at hj
    have hoj : ops[j]? = some o := by
      have : (ops.toList.drop j)[0]? = some o := by rw [hj]; rfl
      simpa using this
    have hj' : ops.toList.drop (j + 1) = os := by
      have : (ops.toList.drop j).drop 1 = os := by rw [hj]; rfl
      simpa [List.drop_drop] using this
    have hmem : o ∈ ops.toList := by
      have := List.mem_of_getElem? (by simpa using hoj : ops.toList[j]? = some o)
      exact this
    rw [drop_range hlt]
    unfold runOps at hs
    split at hs
    · rename_i hw
      split at hs
      · rename_i v h1 hr1
        have n1 := runOps_next M hs
        have n0 := runOp_next M hr1
        rw [preKill_next] at n0
        have tk := preKill_tn hr ks o.dst e
        have hF' : Free φ (preKill ks o.dst e h).next N := by rw [preKill_next]; exact hF
        obtain ⟨φ1, v', w1, t1, hv, st⟩ := Op o e _ v h1 hr1 N φ a w ds b k cs ops j ((List.range ops.size).drop (j + 1)) (by omega) hF' ke tk.rel hoj (wanted_of ke hw)
        have t01 := tk.trans t1
        obtain ⟨φ2, a2, w2, t2, k2, sz2, st2⟩ := runOps_sound Op M hd os (j + 1) _ e' h1 h' hj' hs N φ1 (putT a o.dst v') w1 ds b k cs hN (hF.tn t01) ((ke.mono t1.le).putO (fun t ht => hdst o hmem t ht) hv)
          (fun o ho t ht => by rw [size_putT]; exact hdst o ho t ht) t1.rel
        exact ⟨φ2, a2, w2, t01.trans t2, k2, by rw [sz2, size_putT], st.trans st2⟩
      · simp at hs
    · rename_i hw
      obtain ⟨φ2, a2, w2, t2, k2, sz2, st2⟩ := runOps_sound Op M hd os (j + 1) _ e' h h' hj' hs N φ (putT a o.dst undef) w ds b k cs hN hF (ke.putO (fun t ht => hdst o hmem t ht) (.junk _))
        (fun o ho t ht => by rw [size_putT]; exact hdst o ho t ht) hr
      exact ⟨φ2, a2, w2, t2, k2, by rw [sz2, size_putT], Steps.head (at_opSkip hoj (wanted_of ke hw)) st2⟩
    · simp at hs
theorem dst_of {n : Nat} {id : Nat} {ops : Array Oper} {draw : Bool} (hc : codeDst n (.region id ops draw) = true) : ∀ o ∈ ops.toList, ∀ t, o.dst = some t → t < n := by
  intro o ho t ht
  simp only [codeDst, List.all_eq_true] at hc
  have := hc o ho
  rw [ht] at this
  simpa [Nat.blt_eq] using this

/-! ## The same step from two places -/
theorem steps_same {m0 m1 m2 m : Machine} (h0 : step P m0 = .next m2) (h1 : step P m1 = .next m2) (s : Steps P m0 m) (hne : m ≠ m0) : Steps P m1 m := by
  obtain ⟨n, hn⟩ := s
  cases n with
  | zero => simp only [runN, Stepped.next.injEq] at hn; exact absurd hn.symm hne
  | succ n => simp only [runN, h0] at hn; exact Steps.head h1 ⟨n, hn⟩
theorem lone_todo {fr fr' : Frame} {cs : List Frame} {w w' : World} (h : lone fr cs w = lone fr' cs w') : fr.todo = fr'.todo := by
  simp [lone] at h
  rw [h.2]
theorem Arr.loopOn {b : Frame} {a1 a2 : Array Value} {ds1 ds2 : List Deferred} {k : List Item} {cs : List Frame} {c : Code} {x : AX} {w1 w2 : World}
    (ar : Arr P (lone (At b a1 ds1 (.code (.loop c) :: k)) cs w1) b k cs x a2 ds2 w2) : Arr P (lone (At b a1 ds1 (.inLoop c :: k)) cs w1) b k cs x a2 ds2 w2 := by
  cases x with
  | normal =>
    refine steps_same at_loop at_inLoop ar (fun e => ?_)
    have := congrArg List.length (lone_todo e)
    simp [At] at this
  | exit id =>
    obtain ⟨k', s, hx⟩ := ar
    exact ⟨k', steps_same at_loop at_inLoop s (fun e => by have := lone_todo e; simp [At] at this), hx⟩
  | ret =>
    obtain ⟨k', s⟩ := ar
    exact ⟨k', steps_same at_loop at_inLoop s (fun e => by have := lone_todo e; simp [At] at this)⟩

/-! ## Ranges over functions -/
theorem Tn.push (r : R P φ h w) (O : Obj) : Tn P φ h w φ h { w with heap := w.heap.push O } := by
  have hold : ∀ b o r', h.get b = some o → φ b = some r' → ∃ o', w.heap[r'.blk]? = some o' ∧ (w.heap.push O)[r'.blk]? = some o' ∧ OR P φ r' o o' := by
    intro b o r' h1 h2
    obtain ⟨O', hO, hr⟩ := r.obj b o r' h1 h2
    have := (Array.getElem?_eq_some_iff.1 hO).1
    exact ⟨O', hO, by rw [Array.getElem?_push, if_neg (by omega)]; exact hO, hr⟩
  refine ⟨Le.refl _, fun _ e => .inl e, Nat.le_refl _, ⟨fun b o r' h1 h2 => ?_, r.inj, r.lt⟩, by simp, rfl, rfl, rfl, fun c hc _ => ?_, fun b o rc h1 h2 _ => ⟨b, o, rc, h1, h2, rfl, id⟩⟩
  · obtain ⟨O', _, h3, h4⟩ := hold b o r' h1 h2
    exact ⟨O', h3, h4⟩
  · simp only [Array.getElem?_push]
    rw [if_neg (by omega)]
theorem Tn.sameGet {h2 : AH} (t : Tn P φ h w φ' h' w') (hg : ∀ b, h2.get b = h'.get b) (hn : h2.next = h'.next) : Tn P φ h w φ' h2 w' :=
  ⟨t.le, by rw [hn]; exact t.new, by rw [hn]; exact t.nle, ⟨fun b o rc k1 => by rw [hg] at k1; exact t.rel.obj b o rc k1, fun b1 b2 o1 o2 r1 r2 k1 k2 => by rw [hg] at k1 k2; exact t.rel.inj b1 b2 o1 o2 r1 r2 k1 k2, fun b o k => by rw [hg] at k; rw [hn]; exact t.rel.lt b o k⟩,
    t.size, t.os, t.tape, t.output, t.keep, fun b o rc k1 => by rw [hg] at k1; exact t.old b o rc k1⟩
theorem Marks.mem {B : Nat} : ∀ {ds : List Deferred}, Marks P B φ h w ds → ∀ d ∈ ds, ∃ q, d.target = .collected q ∧ w.heap[q]? = some (.deferred (some []))
  | d :: ds, ⟨⟨q, h1, h2, h3, h4, h5⟩, hr⟩, d', hd => by
    rcases List.mem_cons.1 hd with rfl | hd
    · exact ⟨q, h1, h3⟩
    · exact Marks.mem hr d' hd
theorem range_sound {r : Ex} (G : Good P) (X : GoodX P K) (S : SEx P r) (M : MonoEx r) {rd : Option Nat} {ks : List Tmp} {f : Operand} {ps : Array Tmp} {as bd : Code} {e e' : Env} {x : AX} (hs : exRange P K r ks f ps.toList as bd e h = some (x, e', h')) (haro : aroundOk rd h = true)
    {N B : Nat} {a : Array Value} {ds : List Deferred} {b : Frame} {k : List Item} {cs : List Frame}
    (hN : h'.next ≤ N) (hF : Free φ h.next N) (ke : EnvR φ e a) (hdst : codeDst a.size (.rangeFunc f ps as bd) = true) (hr : R P φ h w) (hrd : RD φ rd b) (hm : Marks P B φ h w ds) (hB : B ≤ w.heap.size) :
    ∃ φ' a' ds' w', Tn P φ h w φ' h' w' ∧ EnvR φ' e' a' ∧ a'.size = a.size ∧ Marks P B φ' h' w' ds' ∧ Arr P (lone (At b a ds (.code (.rangeFunc f ps as bd) :: k)) cs w) b k cs x a' ds' w' := by
  unfold exRange at hs
  simp only [codeDst, Bool.and_eq_true, List.all_eq_true, Nat.blt_eq] at hdst
  obtain ⟨⟨hd1, hd2⟩, hd3⟩ := hdst
  cases hcall : rangeCall P K r (ev e f) h.next (h.alloc (.loop { state := .ready, pending := none, env := e, params := ps.toList, assign := as, body := bd, ks })) with
  | none => rw [hcall] at hs; simp at hs
  | some y =>
  obtain ⟨v0, h2⟩ := y
  rw [hcall] at hs
  simp only at hs
  cases hl2 : h2.get h.next with
  | none => rw [hl2] at hs; simp at hs
  | some ob =>
  rw [hl2] at hs
  cases ob with
  | loop L =>
    simp only at hs
    -- the two blocks, or the one within a round
    have start : ∃ (mk : List Deferred) (w1 : World) (dq : Nat), Tn P φ h w φ h w1 ∧ Marks P B φ h w1 (mk ++ ds) ∧
        (Instr.enterLoop b.fn a ps as bd b.roundOf).run P w = .ok (w1.heap.size, mk) { w1 with heap := w1.heap.push (.loop { state := .ready, pending := none, fn := b.fn, tmps := a, params := ps, assign := as, body := bd, defers := dq }), drawn := w1.drawn + 0 } := by
      cases rd with
      | none =>
        have hrd' : b.roundOf = none := hrd
        let w1 : World := { w with heap := w.heap.push (.deferred (some [])) }
        have t1 : Tn P φ h w φ h w1 := Tn.push hr _
        have hq1 : w1.heap[w.heap.size]? = some (.deferred (some [])) := by simp [w1]
        have hnm := t1.rel.nomark hq1
        refine ⟨[{ target := .collected w.heap.size, args := #[] }], w1, w.heap.size, t1, ⟨⟨w.heap.size, rfl, hB, hq1, fun ⟨b', o', rc', k1, k2, k3, _⟩ => hnm b' o' rc' k1 k2 k3, fun d' hd' e' => ?_⟩, hm.tn t1⟩, ?_⟩
        · obtain ⟨q', k1, k2⟩ := hm.mem d' hd'
          rw [k1] at e'
          simp only [Target.collected.injEq] at e'
          have := (Array.getElem?_eq_some_iff.1 k2).1
          omega
        · rw [hrd']
          simp only [Instr.enterLoop, Sem.run_bind, run_newObj, Sem.run_pure, Result.andThen_ok]
          simp [w1]
      | some lo =>
        obtain ⟨rco, hφo, hro⟩ := hrd
        simp only [aroundOk] at haro
        split at haro
        rotate_left
        · simp at haro
        rename_i Lo hgo
        obtain ⟨Lo', hoo, _⟩ := hr.loop hgo hφo
        refine ⟨[], w, Lo'.defers, Tn.refl hr, hm, ?_⟩
        rw [hro]
        simp only [Instr.enterLoop, Sem.run_bind, getLoop_run hoo, run_newObj, Sem.run_pure, Result.andThen_ok]
        simp
    obtain ⟨mk, w1, dq, t1, hm0, hent⟩ := start
    let L' : Loop := { state := .ready, pending := none, fn := b.fn, tmps := a, params := ps, assign := as, body := bd, defers := dq }
    let l := w1.heap.size
    let rc : Rec := ⟨l, 0, 0, 0⟩
    have hn2 : h.next + 1 ≤ h2.next := by
      have := rangeCall_next M hcall
      simpa using this
    have hn' : h'.next = h2.next := by
      cases hst : L.state <;> rw [hst] at hs <;> first | (simp at hs; done) | skip
      all_goals
        cases hpe : L.pending with
        | none => rw [hpe] at hs; simp only [Option.some.injEq, Prod.mk.injEq] at hs; rw [← hs.2.2]; rfl
        | some c =>
          rw [hpe] at hs
          cases c <;> simp only at hs <;> first | (simp at hs; done) | (simp only [Option.some.injEq, Prod.mk.injEq] at hs; rw [← hs.2.2]; rfl)
    have hfree : φ h.next = none := hF _ (Nat.le_refl _) (by omega)
    have t2 := Tn.alloc t1.rel (.loop { state := .ready, pending := none, env := e, params := ps.toList, assign := as, body := bd, ks }) (.loop L') rc hfree (by simp [rc, l])
      (fun ψ hψ _ => ⟨ke.mono hψ, rfl, rfl, rfl, rfl, rfl, hd2, hd3, hd1⟩) 0
    have t12 := t1.trans t2
    generalize hφ1 : (fun b => if b = h.next then some rc else φ b) = φ1 at t2 t12
    have hφl : φ1 h.next = some rc := by rw [← hφ1]; simp
    generalize hw2 : ({ w1 with heap := w1.heap.push (.loop L'), drawn := w1.drawn + 0 } : World) = w2 at t2 t12
    have hm1 : Marks P B φ1 (h.alloc (.loop { state := .ready, pending := none, env := e, params := ps.toList, assign := as, body := bd, ks })) w2 (mk ++ ds) := hm0.tn t2
    rw [hw2] at hent
    -- the call
    have ke1 : EnvR φ1 e a := ke.mono t12.le
    have hx := VR.eval ke1 f
    unfold rangeCall at hcall
    split at hcall
    rotate_left
    · simp at hcall
    rename_i g first cap hev
    rw [hev] at hx
    obtain ⟨fn', first', cap', hv', hfr, hf1, hf2⟩ := hx.funcAR
    cases hfr
    have hall : AR φ1 (first.toList ++ [Value.func (Fn.yield h.next) #[] #[]] ++ cap.toList) ((first'.toList ++ [Value.func (Fn.yield l) #[] #[]]) ++ cap'.toList) :=
      (hf1.append (show AR φ1 [Value.func (Fn.yield h.next) #[] #[]] [Value.func (Fn.yield l) #[] #[]] from ⟨.func (.yield (r := rc) hφl) rfl rfl (fun i v v' hv => by simp at hv) (fun i v v' hv => by simp at hv), trivial⟩)).append hf2
    have hFr : Free φ1 (h.next + 1) N := by
      have := hF.tn t12
      simpa using this
    obtain ⟨φ3, v3, w3, fr3, t3, hvr3, st3, hfn3, hlv3⟩ := call_sound (K := K) G X S g _ _ v0 h2 hcall N φ1 _ w2 (At b a (mk ++ ds) (.inRangeFunc l :: k) :: cs) (by omega) (by simpa using hFr) hall t2.rel
    have hargs0 : (first'.toList ++ [Value.func (Fn.yield l) #[] #[]] ++ cap'.toList).toArray = (first' ++ #[Value.func (Fn.yield l) #[] #[]]) ++ cap' := Array.ext' (by simp)
    have hstart : step P (lone (At b a ds (.code (.rangeFunc f ps as bd) :: k)) cs w) = .next (lone (Frame.enter P g (first'.toList ++ [Value.func (Fn.yield l) #[] #[]] ++ cap'.toList).toArray .normal) (At b a (mk ++ ds) (.inRangeFunc l :: k) :: cs) w2) := by
      have hinv : (do let d ← resolve (rho a) { callee := .value f, args := #[.const (.func (.yield l) #[] #[])], argTypes := #[] } 0; invoke d.target d.args : Sem Next).run P w2 =
          .ok (.enter g (first'.toList ++ [Value.func (Fn.yield l) #[] #[]] ++ cap'.toList).toArray) w2 := by
        obtain ⟨fn, c, hfn', hc⟩ := call_body X hcall
        have hname := G.name g fn hfn'
        have hyc : rho a (.const (.func (.yield l) #[] #[])) = .func (.yield l) #[] #[] := rfl
        rw [hargs0]
        simp only [resolve, hv', Deferred.ofValue, Sem.run_bind, Sem.run_pure, Result.andThen_ok, invoke, callFunc, run_program, hfn', hname, hc]
        simp [hyc]
      have hev' := At_eval' b a (mk ++ ds) (.inRangeFunc l :: k)
      simp only [At] at hev'
      refine step_lone_go ?_
      simp only [stepG, stepG.exec, At]
      simp [hent]
      simp [l] at hev' hinv
      simp [hev', stepG.apply, hinv, l]
    have hfin : (At b a (mk ++ ds) (.inRangeFunc l :: k)).finish v3 = At b a (mk ++ ds) (.endRangeFunc l :: k) := by simp [Frame.finish, At]
    have st4 := step_leave_returned hlv3 (c := At b a (mk ++ ds) (.inRangeFunc l :: k)) (cs := cs)
    rw [hfin] at st4
    obtain ⟨L3, ho3, kel, hps3, has3, hbd3, hpe3, hst3, e1, e2, e3⟩ := t3.rel.loop hl2 (t3.le _ _ hφl)
    obtain ⟨hset, t4⟩ := Tn.setLoop (L2 := { L with state := .over }) (L2' := { L3 with state := .exhausted }) t3.rel hl2 (t3.le _ _ hφl) ho3 ⟨kel, hps3, has3, hbd3, hpe3, rfl, e1, e2, e3⟩
    have t5 := (t4.trans (Tn.del t4.rel h.next)).sameGet (h2 := h2.del h.next) (fun c => by
      rw [AH.get_del, AH.get_del, AH.get_set]
      split <;> rfl) rfl
    generalize hw4 : ({ w3 with heap := w3.heap.setIfInBounds rc.blk (.loop { L3 with state := .exhausted }) } : World) = w4 at hset t4 t5
    have hend : L.state ≠ .busy → (Instr.endLoop l).run P w3 = .ok L.pending w4 := by
      intro hne
      have hnb : (L3.state == LoopState.busy) = false := by
        rw [hst3]
        cases hh : L.state <;> first | rfl | exact absurd hh hne
      have hgl : (Instr.getLoop l).run P w3 = .ok L3 w3 := getLoop_run ho3
      have hsl : (setObj l (.loop { L3 with state := .exhausted })).run P w3 = .ok () w4 := hset
      simp only [Instr.endLoop, Sem.run_bind, hgl, Result.andThen_ok, hnb, Bool.false_eq_true, if_false, hsl, Sem.run_pure]
      rw [hpe3]
    have tAll := (t12.trans t3).trans t5
    have mAll := (hm1.tn t3).tn t5
    have keAll : EnvR φ3 e a := ke1.mono t3.le
    have sAll : L.state ≠ .busy → Steps P (lone (At b a ds (.code (.rangeFunc f ps as bd) :: k)) cs w) (lone (At b a (mk ++ ds) ((L.pending.map Item.code).toList ++ k)) cs w4) := by
      intro hne
      refine Steps.head hstart (Steps.trans st3 (Steps.head st4 (.one ?_)))
      exact step_lone_go (by simp [stepG, stepG.exec, At, hend hne])
    have fin : L.state ≠ .busy → (match L.pending with
        | none => some (AX.normal, e, h2.del h.next)
        | some (.exit id) => some (.exit id, e, h2.del h.next)
        | some .ret => some (.ret, e, h2.del h.next)
        | _ => none) = some (x, e', h') → ∃ φ' a' ds' w', Tn P φ h w φ' h' w' ∧ EnvR φ' e' a' ∧ a'.size = a.size ∧ Marks P B φ' h' w' ds' ∧ Arr P (lone (At b a ds (.code (.rangeFunc f ps as bd) :: k)) cs w) b k cs x a' ds' w' := by
      intro hne hq
      have hst := sAll hne
      cases hpe : L.pending with
      | none =>
        rw [hpe] at hq hst
        simp only [Option.some.injEq, Prod.mk.injEq] at hq
        obtain ⟨rfl, rfl, rfl⟩ := hq
        exact ⟨φ3, a, mk ++ ds, w4, tAll, keAll, rfl, mAll, hst⟩
      | some c =>
        rw [hpe] at hq hst
        cases c with
        | exit id =>
          simp only [Option.some.injEq, Prod.mk.injEq] at hq
          obtain ⟨rfl, rfl, rfl⟩ := hq
          exact ⟨φ3, a, mk ++ ds, w4, tAll, keAll, rfl, mAll, k, hst, rfl⟩
        | ret =>
          simp only [Option.some.injEq, Prod.mk.injEq] at hq
          obtain ⟨rfl, rfl, rfl⟩ := hq
          exact ⟨φ3, a, mk ++ ds, w4, tAll, keAll, rfl, mAll, k, hst⟩
        | _ => simp at hq
    cases hst : L.state with
    | busy => rw [hst] at hs; simp at hs
    | ready => rw [hst] at hs fin; exact fin (by simp) hs
    | done => rw [hst] at hs fin; exact fin (by simp) hs
    | over => rw [hst] at hs fin; exact fin (by simp) hs
  | _ => simp at hs

theorem exStep_sound {r : Ex} (G : Good P) (X : GoodX P K) (S : SEx P r) (M : MonoEx r) (D : SDraw P K r) : SEx P (exStep P K r) := by
  intro rd ks c e h x e' h' hs N B φ a w ds b k cs hN hF ke hdst hr hrd hm hB
  have Op := opIn_sound (K := K) G X S M
  unfold exStep at hs
  split at hs
  · simp only [Option.some.injEq, Prod.mk.injEq] at hs
    obtain ⟨rfl, rfl, rfl⟩ := hs
    exact ⟨φ, a, ds, w, Tn.refl hr, ke, rfl, hm, .one at_skip⟩
  · simp only [Option.some.injEq, Prod.mk.injEq] at hs
    obtain ⟨rfl, rfl, rfl⟩ := hs
    exact ⟨φ, a, ds, w, Tn.refl hr, ke, rfl, hm, .one at_label⟩
  · rename_i id ops draw
    split at hs
    · split at hs
      · rename_i e1 h1 hr1
        simp only [Option.some.injEq, Prod.mk.injEq] at hs
        obtain ⟨rfl, rfl, rfl⟩ := hs
        obtain ⟨φ2, a2, w2, t2, k2, sz2, st2⟩ := runOps_sound Op M (fun _ _ _ _ => .inr trivial) ops.toList 0 e e1 h h1 rfl hr1 N φ a w ds b k cs hN hF ke (dst_of hdst) hr
        exact ⟨φ2, a2, ds, w2, t2, k2, sz2, hm.tn t2, (Steps.head at_region (Steps.trans st2 (.one at_end)) : Steps P _ _)⟩
      · simp at hs
    · split at hs
      · rename_i e1 h1 hr1
        simp only [Option.some.injEq, Prod.mk.injEq] at hs
        obtain ⟨rfl, rfl, rfl⟩ := hs
        obtain ⟨φ2, a2, w2, t2, k2, sz2, st2⟩ := D id ops e h e1 h1 hr1 N φ a w ds b k cs hN hF ke hdst hr
        exact ⟨φ2, a2, ds, w2, t2, k2, sz2, hm.tn t2, st2⟩
      · simp at hs
  · rename_i ca cb
    simp only [codeDst, Bool.and_eq_true] at hdst
    split at hs
    · rename_i e1 h1 hr1
      have n1 := M _ _ _ _ _ _ _ _ hs
      obtain ⟨φ1, a1, ds1, w1, t1, k1, sz1, m1, ar1⟩ := S rd ks ca e h .normal e1 h1 hr1 N B φ a w ds b (.code cb :: k) cs (by omega) hF ke hdst.1 hr hrd hm hB
      obtain ⟨φ2, a2, ds2, w2, t2, k2, sz2, m2, ar2⟩ := S rd ks cb e1 h1 x e' h' hs N B φ1 a1 w1 ds1 b k cs hN (hF.tn t1) k1 (by rw [sz1]; exact hdst.2) t1.rel (hrd.mono t1.le) m1 (Nat.le_trans hB t1.size)
      exact ⟨φ2, a2, ds2, w2, t1.trans t2, k2, by rw [sz2, sz1], m2, Arr.of_steps (Steps.head at_seq ar1) ar2⟩
    · rename_i hne
      obtain ⟨φ1, a1, ds1, w1, t1, k1, sz1, m1, ar1⟩ := S rd ks ca e h x e' h' hs N B φ a w ds b (.code cb :: k) cs hN hF ke hdst.1 hr hrd hm hB
      refine ⟨φ1, a1, ds1, w1, t1, k1, sz1, m1, ?_⟩
      cases x with
      | normal => exact absurd hs (hne _ _)
      | exit id => obtain ⟨k', s1, s2⟩ := ar1; exact ⟨k', Steps.head at_seq s1, by rw [s2]; rfl⟩
      | ret => obtain ⟨k', s1⟩ := ar1; exact ⟨k', Steps.head at_seq s1⟩
  · rename_i c ca cb
    simp only [codeDst, Bool.and_eq_true] at hdst
    have hc := VR.eval ke c
    split at hs
    · rename_i t hev
      rw [hev] at hc
      have hrho : rho a c = .bool t := by
        generalize hq : rho a c = q
        simp only [rho] at hq
        rw [hq] at hc
        cases hc
        rfl
      cases t
      · simp only [cond_false] at hs
        obtain ⟨φ1, a1, ds1, w1, t1, k1, sz1, m1, ar1⟩ := S rd ks cb e h x e' h' hs N B φ a w ds b k cs hN hF ke hdst.2 hr hrd hm hB
        exact ⟨φ1, a1, ds1, w1, t1, k1, sz1, m1, Arr.of_steps (.one (at_cond hrho)) (by simpa using ar1)⟩
      · simp only [cond_true] at hs
        obtain ⟨φ1, a1, ds1, w1, t1, k1, sz1, m1, ar1⟩ := S rd ks ca e h x e' h' hs N B φ a w ds b k cs hN hF ke hdst.1 hr hrd hm hB
        exact ⟨φ1, a1, ds1, w1, t1, k1, sz1, m1, Arr.of_steps (.one (at_cond hrho)) (by simpa using ar1)⟩
    · simp at hs
  · rename_i id c
    simp only [codeDst] at hdst
    split at hs
    · rename_i id' e1 h1 hr1
      have n1 : h'.next = h1.next := by
        cases hb : Nat.beq id' id <;> rw [hb] at hs <;> simp only [cond_true, cond_false, Option.some.injEq, Prod.mk.injEq] at hs <;> rw [← hs.2.2]
      obtain ⟨φ1, a1, ds1, w1, t1, k1, sz1, m1, ar1⟩ := S rd ks c e h (.exit id') e1 h1 hr1 N B φ a w ds b (.inBlock id :: k) cs (by omega) hF ke hdst hr hrd hm hB
      obtain ⟨k', s1, s2⟩ := ar1
      cases hb : Nat.beq id' id with
      | true =>
        rw [hb] at hs
        simp only [cond_true, Option.some.injEq, Prod.mk.injEq] at hs
        obtain ⟨rfl, rfl, rfl⟩ := hs
        have hid : id' = id := Nat.eq_of_beq_eq_true hb
        subst hid
        refine ⟨φ1, a1, ds1, w1, t1, k1, sz1, m1, Steps.head at_block (s1.trans (.one (at_exit ?_)))⟩
        rw [s2]
        simp [exitTo]
      | false =>
        rw [hb] at hs
        simp only [cond_false, Option.some.injEq, Prod.mk.injEq] at hs
        obtain ⟨rfl, rfl, rfl⟩ := hs
        refine ⟨φ1, a1, ds1, w1, t1, k1, sz1, m1, k', Steps.head at_block s1, ?_⟩
        rw [s2]
        have : (id == id') = false := by
          simp
          intro q
          subst q
          rw [Nat.beq_refl] at hb
          simp at hb
        simp [exitTo, this]
    · rename_i hne
      obtain ⟨φ1, a1, ds1, w1, t1, k1, sz1, m1, ar1⟩ := S rd ks c e h x e' h' hs N B φ a w ds b (.inBlock id :: k) cs hN hF ke hdst hr hrd hm hB
      refine ⟨φ1, a1, ds1, w1, t1, k1, sz1, m1, ?_⟩
      cases x with
      | normal => exact Steps.head at_block (Steps.trans ar1 (.one at_inBlock))
      | exit id' => exact absurd hs (hne _ _ _)
      | ret => obtain ⟨k', s1⟩ := ar1; exact ⟨k', Steps.head at_block s1⟩
  · rename_i c
    simp only [codeDst] at hdst
    split at hs
    · rename_i e1 h1 hr1
      have n1 := M _ _ _ _ _ _ _ _ hs
      obtain ⟨φ1, a1, ds1, w1, t1, k1, sz1, m1, ar1⟩ := S rd ks c e h .normal e1 h1 hr1 N B φ a w ds b (.inLoop c :: k) cs (by omega) hF ke hdst hr hrd hm hB
      obtain ⟨φ2, a2, ds2, w2, t2, k2, sz2, m2, ar2⟩ := S rd ks (.loop c) e1 h1 x e' h' hs N B φ1 a1 w1 ds1 b k cs hN (hF.tn t1) k1 (by rw [sz1]; exact hdst) t1.rel (hrd.mono t1.le) m1 (Nat.le_trans hB t1.size)
      exact ⟨φ2, a2, ds2, w2, t1.trans t2, k2, by rw [sz2, sz1], m2, Arr.of_steps (Steps.head at_loop ar1) ar2.loopOn⟩
    · rename_i hne
      obtain ⟨φ1, a1, ds1, w1, t1, k1, sz1, m1, ar1⟩ := S rd ks c e h x e' h' hs N B φ a w ds b (.inLoop c :: k) cs hN hF ke hdst hr hrd hm hB
      refine ⟨φ1, a1, ds1, w1, t1, k1, sz1, m1, ?_⟩
      cases x with
      | normal => exact absurd hs (hne _ _)
      | exit id => obtain ⟨k', s1, s2⟩ := ar1; exact ⟨k', Steps.head at_loop s1, by rw [s2]; rfl⟩
      | ret => obtain ⟨k', s1⟩ := ar1; exact ⟨k', Steps.head at_loop s1⟩
  · rename_i c
    simp only [codeDst] at hdst
    obtain ⟨φ1, a1, ds1, w1, t1, k1, sz1, m1, ar1⟩ := S rd ks c e h x e' h' hs N B φ a w ds b (.inScope c :: k) cs hN hF ke hdst hr hrd hm hB
    refine ⟨φ1, a1, ds1, w1, t1, k1, sz1, m1, ?_⟩
    cases x with
    | normal => exact Steps.head at_scope (Steps.trans ar1 (.one at_inScope))
    | exit id => obtain ⟨k', s1, s2⟩ := ar1; exact ⟨k', Steps.head at_scope s1, by rw [s2]; rfl⟩
    | ret => obtain ⟨k', s1⟩ := ar1; exact ⟨k', Steps.head at_scope s1⟩
  · rename_i id
    simp only [Option.some.injEq, Prod.mk.injEq] at hs
    obtain ⟨rfl, rfl, rfl⟩ := hs
    exact ⟨φ, a, ds, w, Tn.refl hr, ke, rfl, hm, k, Steps.refl P _, rfl⟩
  · simp only [Option.some.injEq, Prod.mk.injEq] at hs
    obtain ⟨rfl, rfl, rfl⟩ := hs
    exact ⟨φ, a, ds, w, Tn.refl hr, ke, rfl, hm, k, Steps.refl P _⟩
  · rename_i f ps as bd
    split at hs
    · simp at hs
    · rename_i haro
      exact range_sound G X S M hs haro hN hF ke hdst hr hrd hm hB
  · simp at hs
  · simp at hs
end Go.Am
