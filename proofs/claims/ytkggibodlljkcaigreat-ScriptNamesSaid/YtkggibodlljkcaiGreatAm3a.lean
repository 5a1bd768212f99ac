/-
  The machine's steps in any frame; and that names only grow.
-/
import Derived.Test.YtkggibodlljkcaiGreatAm2j
set_option linter.unusedVariables false
set_option linter.unusedSimpArgs false
namespace Go.Am
variable {P : Program} {φ φ' : Fi} {h h' : AH} {w w' : World}

abbrev rho (a : Array Value) : Operand → Value := ({ tmps := a, defers := [] } : Act).eval
def At (b : Frame) (a : Array Value) (ds : List Deferred) (todo : List Item) : Frame := { b with tmps := a, defers := ds, todo := todo, mode := .run }
theorem At_eval (b : Frame) (a : Array Value) (ds : List Deferred) (todo : List Item) (x : Operand) : (At b a ds todo).eval x = rho a x := by cases x <;> rfl
theorem At_eval' (b : Frame) (a : Array Value) (ds : List Deferred) (todo : List Item) : (At b a ds todo).eval = rho a := funext (At_eval b a ds todo)
def putT (a : Array Value) (d : Option Tmp) (v : Value) : Array Value := match d with | some d => a.setIfInBounds d v | none => a
theorem size_putT (a : Array Value) (d : Option Tmp) (v : Value) : (putT a d v).size = a.size := by cases d <;> simp [putT]

section
variable {b : Frame} {a : Array Value} {ds : List Deferred} {k : List Item} {cs : List Frame}
theorem at_skip : step P (lone (At b a ds (.code .skip :: k)) cs w) = .next (lone (At b a ds k) cs w) := step_lone_go (by simp [stepG, stepG.exec, At])
theorem at_label {l : Nat} : step P (lone (At b a ds (.code (.label l) :: k)) cs w) = .next (lone (At b a ds k) cs w) := step_lone_go (by simp [stepG, stepG.exec, At])
theorem at_inBlock {id : Nat} : step P (lone (At b a ds (.inBlock id :: k)) cs w) = .next (lone (At b a ds k) cs w) := step_lone_go (by simp [stepG, stepG.exec, At])
theorem at_inScope {c : Code} : step P (lone (At b a ds (.inScope c :: k)) cs w) = .next (lone (At b a ds k) cs w) := step_lone_go (by simp [stepG, stepG.exec, At])
theorem at_seq {x y : Code} : step P (lone (At b a ds (.code (.seq x y) :: k)) cs w) = .next (lone (At b a ds (.code x :: .code y :: k)) cs w) := step_lone_go (by simp [stepG, stepG.exec, At])
theorem at_cond {c : Operand} {x y : Code} {t : Bool} (hc : rho a c = .bool t) :
    step P (lone (At b a ds (.code (.cond c x y) :: k)) cs w) = .next (lone (At b a ds (.code (if t then x else y) :: k)) cs w) :=
  step_lone_go (by
    have := At_eval b a ds (.code (.cond c x y) :: k) c
    simp only [At] at this
    simp [stepG, stepG.exec, At, this, hc])
theorem at_block {id : Nat} {c : Code} : step P (lone (At b a ds (.code (.block id c) :: k)) cs w) = .next (lone (At b a ds (.code c :: .inBlock id :: k)) cs w) := step_lone_go (by simp [stepG, stepG.exec, At])
theorem at_loop {c : Code} : step P (lone (At b a ds (.code (.loop c) :: k)) cs w) = .next (lone (At b a ds (.code c :: .inLoop c :: k)) cs w) := step_lone_go (by simp [stepG, stepG.exec, At])
theorem at_inLoop {c : Code} : step P (lone (At b a ds (.inLoop c :: k)) cs w) = .next (lone (At b a ds (.code c :: .inLoop c :: k)) cs w) := step_lone_go (by simp [stepG, stepG.exec, At])
theorem at_scope {c : Code} : step P (lone (At b a ds (.code (.scope c) :: k)) cs w) = .next (lone (At b a ds (.code c :: .inScope c :: k)) cs w) := step_lone_go (by simp [stepG, stepG.exec, At])
theorem at_exit {id : Nat} {k' : List Item} (he : exitTo id k = some k') : step P (lone (At b a ds (.code (.exit id) :: k)) cs w) = .next (lone (At b a ds k') cs w) :=
  step_lone_go (by simp [stepG, stepG.exec, At, he])
theorem at_region {id : Nat} {ops : Array Oper} : step P (lone (At b a ds (.code (.region id ops false) :: k)) cs w) = .next (lone (At b a ds (.inRegion ops (List.range ops.size) :: k)) cs w) :=
  step_lone_go (by simp [stepG, stepG.exec, At])
theorem at_draw {id : Nat} {ops : Array Oper} : step P (lone (At b a ds (.code (.region id ops true) :: k)) cs w) =
    .next (lone (At b a ds (.inRegion ops (Region.schedule (P.follows .mixedOrders) ops (w.tape w.drawn (.order b.fn id))) :: k)) cs { w with drawn := w.drawn + 1 }) :=
  step_lone_go (by simp [stepG, stepG.exec, At, choose, Sem.run, Question.forced, Question.cut])
theorem at_end {ops : Array Oper} : step P (lone (At b a ds (.inRegion ops [] :: k)) cs w) = .next (lone (At b a ds k) cs w) := step_lone_go (by simp [stepG, stepG.exec, At])
theorem finish_At (b : Frame) (a : Array Value) (ds : List Deferred) (ops : Array Oper) (i : Nat) (rest : List Nat) (k : List Item) (v : Value) :
    (At b a ds (.inRegion ops (i :: rest) :: k)).finish v = At b (putT a ((ops[i]?).bind (·.dst)) v) ds (.inRegion ops rest :: k) := by
  cases h : (ops[i]?).bind (·.dst) <;> simp [Frame.finish, At, putT, h]
theorem at_opSkip {ops : Array Oper} {i : Nat} {rest : List Nat} {o : Oper} (ho : ops[i]? = some o) (hw : Region.wanted o (yielded ops a) = false) :
    step P (lone (At b a ds (.inRegion ops (i :: rest) :: k)) cs w) = .next (lone (At b (putT a o.dst undef) ds (.inRegion ops rest :: k)) cs w) := by
  have e : At b (putT a o.dst undef) ds (.inRegion ops rest :: k) = (At b a ds (.inRegion ops (i :: rest) :: k)).finish undef := by rw [finish_At, ho]; rfl
  rw [e]
  exact step_lone_go (by simp [stepG, stepG.exec, At, ho, hw])
theorem stepG_At {ops : Array Oper} {i : Nat} {rest : List Nat} {o : Oper} (ho : ops[i]? = some o) (hw : Region.wanted o (yielded ops a) = true) (hnd : ∀ c, o.op ≠ .defer c) :
    stepG P true { frame := At b a ds (.inRegion ops (i :: rest) :: k), callers := cs, status := .running, dying := none } w =
      stepG.apply P true (At b a ds (.inRegion ops (i :: rest) :: k)) cs none (execOp (rho a) o) w := by
  have he := At_eval' b a ds (.inRegion ops (i :: rest) :: k)
  simp only [At] at he
  cases hr : b.roundOf with
  | none =>
    simp only [hr] at he
    simp [stepG, stepG.exec, stepG.oper, Frame.oper?, At, ho, hw, he, hr]
  | some l =>
    simp only [hr] at he
    have : (match (some l : Option Nat), o.op with
      | some l, .defer c => stepG.apply P true { b with tmps := a, defers := ds, todo := .inRegion ops (i :: rest) :: k, mode := .run } cs none (do Instr.deferInRound l (← resolve (rho a) c o.type); pure .skip) w
      | _, _ => stepG.apply P true { b with tmps := a, defers := ds, todo := .inRegion ops (i :: rest) :: k, mode := .run } cs none (execOp (rho a) o) w) = stepG.apply P true { b with tmps := a, defers := ds, todo := .inRegion ops (i :: rest) :: k, mode := .run } cs none (execOp (rho a) o) w := by
      split
      · rename_i c hl hc; exact absurd hc (hnd _)
      · rfl
    simp only [hr] at this
    simp only [stepG, stepG.exec, stepG.oper, Frame.oper?, At, ho, hw, he, hr, Option.map_some, Option.getD_some, if_true]
    exact this
theorem at_val {ops : Array Oper} {i : Nat} {rest : List Nat} {o : Oper} {v : Value} (ho : ops[i]? = some o) (hw : Region.wanted o (yielded ops a) = true) (hnd : ∀ c, o.op ≠ .defer c) (hr : (execOp (rho a) o).run P w = .ok (.value v) w') :
    step P (lone (At b a ds (.inRegion ops (i :: rest) :: k)) cs w) = .next (lone (At b (putT a o.dst v) ds (.inRegion ops rest :: k)) cs w') := by
  have e : At b (putT a o.dst v) ds (.inRegion ops rest :: k) = (At b a ds (.inRegion ops (i :: rest) :: k)).finish v := by rw [finish_At, ho]; rfl
  rw [e]
  exact step_lone_go (by rw [stepG_At ho hw hnd]; simp [stepG.apply, hr])
theorem at_none {ops : Array Oper} {i : Nat} {rest : List Nat} {o : Oper} (ho : ops[i]? = some o) (hw : Region.wanted o (yielded ops a) = true) (hnd : ∀ c, o.op ≠ .defer c) (hr : (execOp (rho a) o).run P w = .ok .skip w') :
    step P (lone (At b a ds (.inRegion ops (i :: rest) :: k)) cs w) = .next (lone (At b (putT a o.dst undef) ds (.inRegion ops rest :: k)) cs w') := by
  have e : At b (putT a o.dst undef) ds (.inRegion ops rest :: k) = (At b a ds (.inRegion ops (i :: rest) :: k)).finish undef := by rw [finish_At, ho]; rfl
  rw [e]
  exact step_lone_go (by rw [stepG_At ho hw hnd]; simp [stepG.apply, hr])
theorem at_enter {ops : Array Oper} {i : Nat} {rest : List Nat} {o : Oper} {f : FuncId} {args : Array Value} (ho : ops[i]? = some o) (hw : Region.wanted o (yielded ops a) = true) (hnd : ∀ c, o.op ≠ .defer c) (hr : (execOp (rho a) o).run P w = .ok (.enter f args) w') :
    step P (lone (At b a ds (.inRegion ops (i :: rest) :: k)) cs w) = .next (lone (Frame.enter P f args .normal) (At b a ds (.inRegion ops (i :: rest) :: k) :: cs) w') :=
  step_lone_go (by rw [stepG_At ho hw hnd]; simp [stepG.apply, hr, At])
theorem at_round {ops : Array Oper} {i : Nat} {rest : List Nat} {o : Oper} {l : Nat} {f : FuncId} {tmps : Array Value} {assign body : Code} (ho : ops[i]? = some o) (hw : Region.wanted o (yielded ops a) = true) (hnd : ∀ c, o.op ≠ .defer c)
    (hr : (execOp (rho a) o).run P w = .ok (.round l f tmps assign body) w') :
    step P (lone (At b a ds (.inRegion ops (i :: rest) :: k)) cs w) = .next (lone (Frame.round l f tmps assign body .normal) (At b a ds (.inRegion ops (i :: rest) :: k) :: cs) w') :=
  step_lone_go (by rw [stepG_At ho hw hnd]; simp [stepG.apply, hr, At])
end

/-! ## Slots -/
theorem EnvR.put {e : Env} {a : Array Value} (k : EnvR φ e a) {d : Tmp} {v v' : Value} (hd : d < a.size) (hv : VR φ v v') : EnvR φ (e.set d v) (a.setIfInBounds d v') := by
  intro i
  rw [Tr.get_set]
  by_cases hi : i = d
  · subst hi
    simp [hd]
    exact hv
  · rw [if_neg hi]
    have : (a.setIfInBounds d v').getD i undef = a.getD i undef := by
      simp [Array.getElem?_setIfInBounds_ne (Ne.symm hi)]
    rw [this]
    exact k i
theorem EnvR.putO {e : Env} {a : Array Value} (k : EnvR φ e a) {d : Option Tmp} {v v' : Value} (hd : ∀ t, d = some t → t < a.size) (hv : VR φ v v') : EnvR φ (putO e d v) (putT a d v') := by
  cases d with
  | none => exact k
  | some t => exact k.put (hd t rfl) hv
theorem wanted_of {ops : Array Oper} {o : Oper} {e : Env} {a : Array Value} {t : Bool} (k : EnvR φ e a) (hw : wantedA ops o e = some t) : Region.wanted o (yielded ops a) = t := by
  unfold wantedA at hw
  unfold Region.wanted
  split at hw
  · rename_i hg
    simp only [hg]
    simpa using hw
  · rename_i j want hg
    simp only [hg]
    split at hw
    · rename_i d hd
      split at hw
      · rename_i bb hb
        simp only [Option.some.injEq] at hw
        subst hw
        have hv := k d
        rw [hb] at hv
        simp only [Option.getD_some] at hv
        have hlt : d < a.size := by
          rcases Nat.lt_or_ge d a.size with q | q
          · exact q
          · rw [show a.getD d undef = undef by simp [Array.getElem?_eq_none q]] at hv
            cases hv
        have hval : a.getD d undef = .bool bb := by
          generalize a.getD d undef = u at hv
          cases hv
          rfl
        have hget : a[d]? = some (.bool bb) := by
          simp [hlt] at hval ⊢
          exact hval
        have : yielded ops a j = some bb := by
          unfold yielded
          rw [hd]
          simp only [Option.bind_some, hget]
        rw [this]
        cases bb <;> cases want <;> rfl
      · simp at hw
    · simp at hw

/-! ## Names only grow -/
theorem storeCells_next {b off : Nat} {vs : List Value} (hs : aStoreCells h b off vs = some h') : h'.next = h.next := by
  unfold aStoreCells at hs
  split at hs
  · split at hs
    · simp only [Option.some.injEq] at hs; subst hs; rfl
    · simp at hs
  · simp at hs
theorem append_next {st : TypeId} {xi : Bool} {s x v : Value} (hs : aAppend P h st xi s x = some (v, h')) : h.next ≤ h'.next := by
  unfold aAppend at hs
  repeat' split at hs
  all_goals first | (simp at hs; done) | skip
  all_goals (simp only [Option.some.injEq, Prod.mk.injEq] at hs; obtain ⟨_, rfl⟩ := hs)
  all_goals first
    | exact Nat.le_refl _
    | (simp; done)
    | (exact Nat.le_of_eq (storeCells_next (by assumption)).symm)
theorem copy_next {st : TypeId} {d s v : Value} (hs : aCopy P h st d s = some (v, h')) : h.next ≤ h'.next := by
  unfold aCopy at hs
  repeat' split at hs
  all_goals first | (simp at hs; done) | skip
  all_goals (simp only [Option.some.injEq, Prod.mk.injEq] at hs; obtain ⟨_, rfl⟩ := hs)
  all_goals first
    | exact Nat.le_refl _
    | (exact Nat.le_of_eq (storeCells_next (by assumption)).symm)
theorem clear_next {t : TypeId} {x v : Value} (hs : aClear P h t x = some (v, h')) : h.next ≤ h'.next := by
  unfold aClear at hs
  repeat' split at hs
  all_goals first | (simp at hs; done) | skip
  all_goals (simp only [Option.some.injEq, Prod.mk.injEq] at hs; obtain ⟨_, rfl⟩ := hs)
  all_goals first
    | exact Nat.le_refl _
    | (exact Nat.le_of_eq (storeCells_next (by assumption)).symm)
theorem delete_next {t : TypeId} {m k v : Value} (hs : aDelete P h t m k = some (v, h')) : h.next ≤ h'.next := by
  unfold aDelete at hs
  repeat' split at hs
  all_goals first | (simp at hs; done) | skip
  all_goals (simp only [Option.some.injEq, Prod.mk.injEq] at hs; obtain ⟨_, rfl⟩ := hs)
  all_goals simp
theorem update_next {t : TypeId} {m k v : Value} (hs : aMapUpdate P h t m k v = some h') : h.next ≤ h'.next := by
  unfold aMapUpdate at hs
  repeat' split at hs
  all_goals first | (simp at hs; done) | skip
  all_goals (simp only [Option.some.injEq] at hs; subst hs)
  all_goals simp
theorem makeSlice_next {t : TypeId} {l c v : Value} (hs : aMakeSlice P h t l c = some (v, h')) : h.next ≤ h'.next := by
  unfold aMakeSlice at hs
  repeat' split at hs
  all_goals first | (simp at hs; done) | skip
  all_goals (simp only [Option.some.injEq, Prod.mk.injEq] at hs; obtain ⟨_, rfl⟩ := hs)
  all_goals simp
theorem buildSlice_next {t : TypeId} {n : Nat} {ps : Array (Nat × Value)} {v : Value} (hs : aBuildSlice P h t n ps = some (v, h')) : h.next ≤ h'.next := by
  unfold aBuildSlice at hs
  repeat' split at hs
  all_goals first | (simp at hs; done) | skip
  all_goals (simp only [Option.some.injEq, Prod.mk.injEq] at hs; obtain ⟨_, rfl⟩ := hs)
  all_goals simp
theorem convert_next {s d : TypeId} {x v : Value} (hs : aConvert P h s d x = some (v, h')) : h.next ≤ h'.next := by
  unfold aConvert at hs
  repeat' split at hs
  all_goals first | (simp at hs; done) | skip
  all_goals (simp only [Option.some.injEq, Prod.mk.injEq] at hs; obtain ⟨_, rfl⟩ := hs)
  all_goals simp
theorem store_next {t : TypeId} {a v : Value} (hs : aStore P h t a v = some h') : h.next ≤ h'.next := by
  unfold aStore at hs
  repeat' split at hs
  all_goals first | (simp at hs; done) | (exact Nat.le_of_eq (storeCells_next hs).symm)
theorem builtin_next {b : Builtin} {ats : Array TypeId} {args : List Value} {v : Value} (hs : aBuiltin P h b ats args = some (v, h')) : h.next ≤ h'.next := by
  unfold aBuiltin at hs
  split at hs
  · obtain ⟨_, _, hq⟩ := Option.map_eq_some_iff.1 hs
    cases hq; exact Nat.le_refl _
  · obtain ⟨_, _, hq⟩ := Option.map_eq_some_iff.1 hs
    cases hq; exact Nat.le_refl _
  · split at hs
    · unfold aAppendZ at hs
      repeat' split at hs
      all_goals first | (simp at hs; done) | (simp only [Option.some.injEq, Prod.mk.injEq] at hs; obtain ⟨_, rfl⟩ := hs; simp; done)
    · exact append_next hs
  · exact copy_next hs
  · exact clear_next hs
  · exact delete_next hs
  · obtain ⟨_, _, hq⟩ := Option.map_eq_some_iff.1 hs
    cases hq; exact Nat.le_refl _
  · obtain ⟨_, _, hq⟩ := Option.map_eq_some_iff.1 hs
    cases hq; exact Nat.le_refl _
  · simp at hs
theorem op_next {o : Oper} {e : Env} {v : Value} (hs : aOp P o e h = some (v, h')) : h.next ≤ h'.next := by
  obtain ⟨dst, op, type, pos, after, guard⟩ := o
  cases op <;> simp only [aOp] at hs
  all_goals first
    | (simp at hs; done)
    | (obtain ⟨_, _, hq⟩ := Option.map_eq_some_iff.1 hs; cases hq; exact Nat.le_refl _)
    | (simp only [Option.some.injEq, Prod.mk.injEq] at hs; obtain ⟨_, rfl⟩ := hs; exact Nat.le_refl _)
    | exact makeSlice_next hs
    | exact buildSlice_next hs
    | exact convert_next hs
    | (obtain ⟨h2, hst, hq⟩ := Option.map_eq_some_iff.1 hs; cases hq; exact store_next hst)
    | (obtain ⟨h2, hst, hq⟩ := Option.map_eq_some_iff.1 hs; cases hq; exact update_next hst)
    | skip
  case call c =>
    obtain ⟨callee, args, ats⟩ := c
    cases callee <;> simp only at hs <;> first | (simp at hs; done) | exact builtin_next hs
  case next it st =>
    cases st <;> simp only at hs
    · simp at hs
    · repeat' split at hs
      all_goals first
        | (simp at hs; done)
        | (simp only [Option.some.injEq, Prod.mk.injEq] at hs; obtain ⟨_, rfl⟩ := hs; simp; done)
  all_goals
    repeat' split at hs
  all_goals first
    | (simp at hs; done)
    | (simp only [aNew, Option.some.injEq, Prod.mk.injEq] at hs; obtain ⟨_, rfl⟩ := hs; simp; done)
    | (obtain ⟨_, _, hq⟩ := Option.map_eq_some_iff.1 hs; cases hq; exact Nat.le_refl _)
theorem kill_next (v : Value) : (killV h v).next = h.next := by unfold killV; split <;> rfl
theorem killAll_next (e : Env) : ∀ (ts : List Tmp) (h : AH), (killAll e h ts).next = h.next
  | [], _ => rfl
  | t :: ts, h => by rw [killAll, killAll_next e ts, kill_next]
theorem preKill_next (ks : List Tmp) (d : Option Tmp) (e : Env) : (preKill ks d e h).next = h.next := by
  unfold preKill
  split
  · split
    · exact kill_next _
    · rfl
  · rfl
end Go.Am
