/-
  CONTRACTS IN THE ABSTRACT MACHINE: rules for code, as equivalences, for whatever fuel.
-/
import Derived.Test.YtkggibodlljkcaiGreatAm3m
set_option linter.unusedVariables false
set_option linter.unusedSimpArgs false
namespace Go.Am
/-- Code runs to an end of which Q holds. -/
def Wc (P : Program) (K : Xs) (rd : Option Nat) (c : Code) (e : Env) (h : AH) (Q : AX → Env → AH → Prop) : Prop := ∃ n x e' h', ex P K n rd [] c e h = some (x, e', h') ∧ Q x e' h'
def Wf (P : Program) (K : Xs) (f : FuncId) (args : List Value) (h : AH) (Q : Value → AH → Prop) : Prop := ∃ n v h', callX P K (ex P K n) f args h = some (v, h') ∧ Q v h'
def Wo (P : Program) (K : Xs) (o : Oper) (e : Env) (h : AH) (Q : Value → AH → Prop) : Prop := ∃ n v h', runOp P K (ex P K n) o e h = some (v, h') ∧ Q v h'
def Ws (P : Program) (K : Xs) (ops : Array Oper) (os : List Oper) (e : Env) (h : AH) (Q : Env → AH → Prop) : Prop := ∃ n e' h', runOps P K (ex P K n) [] ops os e h = some (e', h') ∧ Q e' h'
def Wd (P : Program) (K : Xs) (ops : Array Oper) (e : Env) (h : AH) (Q : Env → AH → Prop) : Prop := ∃ n e' h', exDraw P K (ex P K n) ops e h = some (e', h') ∧ Q e' h'
variable {P : Program} {K : Xs} {rd : Option Nat} {e : Env} {h : AH} {Q : AX → Env → AH → Prop}

theorem Wc.mono {c : Code} {Q' : AX → Env → AH → Prop} (w : Wc P K rd c e h Q) (hq : ∀ x e' h', Q x e' h' → Q' x e' h') : Wc P K rd c e h Q' := by
  obtain ⟨n, x, e', h', h1, h2⟩ := w
  exact ⟨n, x, e', h', h1, hq x e' h' h2⟩
theorem Wf.mono {f : FuncId} {args : List Value} {Q Q' : Value → AH → Prop} (w : Wf P K f args h Q) (hq : ∀ v h', Q v h' → Q' v h') : Wf P K f args h Q' := by
  obtain ⟨n, v, h', h1, h2⟩ := w
  exact ⟨n, v, h', h1, hq v h' h2⟩
/-- One step of the evaluator. -/
theorem Wc_step {c : Code} : Wc P K rd c e h Q ↔ ∃ n x e' h', exStep P K (ex P K n) rd [] c e h = some (x, e', h') ∧ Q x e' h' := by
  constructor
  · rintro ⟨n, x, e', h', h1, h2⟩
    cases n with
    | zero => simp [ex] at h1
    | succ n => exact ⟨n, x, e', h', h1, h2⟩
  · rintro ⟨n, x, e', h', h1, h2⟩
    exact ⟨n + 1, x, e', h', h1, h2⟩
theorem Wc_skip : Wc P K rd .skip e h Q ↔ Q .normal e h := by
  rw [Wc_step]
  exact ⟨fun ⟨n, x, e', h', h1, h2⟩ => by simp [exStep] at h1; obtain ⟨rfl, rfl, rfl⟩ := h1; exact h2, fun hq => ⟨0, _, _, _, rfl, hq⟩⟩
theorem Wc_label {l : Nat} : Wc P K rd (.label l) e h Q ↔ Q .normal e h := by
  rw [Wc_step]
  exact ⟨fun ⟨n, x, e', h', h1, h2⟩ => by simp [exStep] at h1; obtain ⟨rfl, rfl, rfl⟩ := h1; exact h2, fun hq => ⟨0, _, _, _, rfl, hq⟩⟩
theorem Wc_ret : Wc P K rd .ret e h Q ↔ Q .ret e h := by
  rw [Wc_step]
  exact ⟨fun ⟨n, x, e', h', h1, h2⟩ => by simp [exStep] at h1; obtain ⟨rfl, rfl, rfl⟩ := h1; exact h2, fun hq => ⟨0, _, _, _, rfl, hq⟩⟩
theorem Wc_exit {i : Nat} : Wc P K rd (.exit i) e h Q ↔ Q (.exit i) e h := by
  rw [Wc_step]
  exact ⟨fun ⟨n, x, e', h', h1, h2⟩ => by simp [exStep] at h1; obtain ⟨rfl, rfl, rfl⟩ := h1; exact h2, fun hq => ⟨0, _, _, _, rfl, hq⟩⟩
/-- On, if it came through. -/
def onN (k : Env → AH → Prop) (Q : AX → Env → AH → Prop) : AX → Env → AH → Prop
  | .normal, e, h => k e h
  | x, e, h => Q x e h
theorem onN_normal {k : Env → AH → Prop} : onN k Q .normal e h = k e h := rfl
theorem onN_ret {k : Env → AH → Prop} : onN k Q .ret e h = Q .ret e h := rfl
theorem onN_exit {k : Env → AH → Prop} {i : Nat} : onN k Q (.exit i) e h = Q (.exit i) e h := rfl
theorem Wc_seq {a b : Code} : Wc P K rd (.seq a b) e h Q ↔ Wc P K rd a e h (onN (fun e' h' => Wc P K rd b e' h' Q) Q) := by
  constructor
  · rw [Wc_step]
    rintro ⟨n, x, e', h', h1, h2⟩
    simp only [exStep] at h1
    split at h1
    · rename_i e1 h3 hr
      exact ⟨n, _, _, _, hr, n, x, e', h', h1, h2⟩
    · rename_i hne
      refine ⟨n, x, e', h', h1, ?_⟩
      cases x with
      | normal => exact absurd h1 (hne _ _)
      | _ => exact h2
  · rintro ⟨n, x, e', h', h1, h2⟩
    rw [Wc_step]
    cases x with
    | normal =>
      obtain ⟨m, y, e2, h3, h4, h5⟩ := h2
      refine ⟨max n m, y, e2, h3, ?_, h5⟩
      simp only [exStep]
      rw [ex_le (Nat.le_max_left n m) _ _ _ _ _ _ h1]
      exact ex_le (Nat.le_max_right n m) _ _ _ _ _ _ h4
    | exit i => exact ⟨n, _, e', h', by simp only [exStep, h1], h2⟩
    | ret => exact ⟨n, _, e', h', by simp only [exStep, h1], h2⟩
theorem Wc_cond {c : Operand} {a b : Code} {t : Bool} (hc : ev e c = .bool t) : Wc P K rd (.cond c a b) e h Q ↔ Wc P K rd (cond t a b) e h Q := by
  rw [Wc_step]
  constructor
  · rintro ⟨n, x, e', h', h1, h2⟩
    simp only [exStep, hc] at h1
    exact ⟨n, x, e', h', by cases t <;> exact h1, h2⟩
  · rintro ⟨n, x, e', h', h1, h2⟩
    refine ⟨n, x, e', h', ?_, h2⟩
    simp only [exStep, hc]
    cases t <;> exact h1
/-- Out of a block. -/
def outOf (id : Nat) (Q : AX → Env → AH → Prop) : AX → Env → AH → Prop
  | .exit i, e, h => cond (Nat.beq i id) (Q .normal e h) (Q (.exit i) e h)
  | x, e, h => Q x e h
theorem outOf_normal {id : Nat} : outOf id Q .normal e h = Q .normal e h := rfl
theorem outOf_ret {id : Nat} : outOf id Q .ret e h = Q .ret e h := rfl
theorem outOf_self {id : Nat} : outOf id Q (.exit id) e h = Q .normal e h := by simp [outOf]
theorem outOf_ne {id i : Nat} (hi : i ≠ id) : outOf id Q (.exit i) e h = Q (.exit i) e h := by simp [outOf, hi]
theorem Wc_block {id : Nat} {c : Code} : Wc P K rd (.block id c) e h Q ↔ Wc P K rd c e h (outOf id Q) := by
  rw [Wc_step]
  constructor
  · rintro ⟨n, x, e', h', h1, h2⟩
    simp only [exStep] at h1
    split at h1
    · rename_i i e1 h3 hr
      refine ⟨n, _, _, _, hr, ?_⟩
      cases hb : Nat.beq i id <;> rw [hb] at h1 <;> simp only [cond_true, cond_false, Option.some.injEq, Prod.mk.injEq] at h1 <;> obtain ⟨rfl, rfl, rfl⟩ := h1 <;> simp only [outOf, hb, cond_true, cond_false] <;> exact h2
    · rename_i hne
      refine ⟨n, x, e', h', h1, ?_⟩
      cases x with
      | exit i => exact absurd h1 (hne _ _ _)
      | _ => exact h2
  · rintro ⟨n, x, e', h', h1, h2⟩
    cases x with
    | exit i =>
      simp only [outOf] at h2
      cases hb : Nat.beq i id with
      | true => rw [hb] at h2; exact ⟨n, .normal, e', h', by simp only [exStep, h1, hb, cond_true], h2⟩
      | false => rw [hb] at h2; exact ⟨n, .exit i, e', h', by simp only [exStep, h1, hb, cond_false], h2⟩
    | normal => exact ⟨n, _, e', h', by simp only [exStep, h1], h2⟩
    | ret => exact ⟨n, _, e', h', by simp only [exStep, h1], h2⟩
theorem Wc_scope {c : Code} : Wc P K rd (.scope c) e h Q ↔ Wc P K rd c e h Q := by
  rw [Wc_step]
  exact ⟨fun ⟨n, x, e', h', h1, h2⟩ => ⟨n, x, e', h', h1, h2⟩, fun ⟨n, x, e', h', h1, h2⟩ => ⟨n, x, e', h', h1, h2⟩⟩
theorem Wc_loop {c : Code} : Wc P K rd (.loop c) e h Q ↔ Wc P K rd c e h (onN (fun e' h' => Wc P K rd (.loop c) e' h' Q) Q) := by
  constructor
  · rw [Wc_step]
    rintro ⟨n, x, e', h', h1, h2⟩
    simp only [exStep] at h1
    split at h1
    · rename_i e1 h3 hr
      exact ⟨n, _, _, _, hr, n, x, e', h', h1, h2⟩
    · rename_i hne
      refine ⟨n, x, e', h', h1, ?_⟩
      cases x with
      | normal => exact absurd h1 (hne _ _)
      | _ => exact h2
  · rintro ⟨n, x, e', h', h1, h2⟩
    rw [Wc_step]
    cases x with
    | normal =>
      obtain ⟨m, y, e2, h3, h4, h5⟩ := h2
      refine ⟨max n m, y, e2, h3, ?_, h5⟩
      simp only [exStep]
      rw [ex_le (Nat.le_max_left n m) _ _ _ _ _ _ h1]
      exact ex_le (Nat.le_max_right n m) _ _ _ _ _ _ h4
    | exit i => exact ⟨n, _, e', h', by simp only [exStep, h1], h2⟩
    | ret => exact ⟨n, _, e', h', by simp only [exStep, h1], h2⟩
/-- A loop: what holds at its head holds at its head again, nearer to the end. -/
theorem Wc_loop_inv {c : Code} (I : Nat → Env → AH → Prop) (hI : ∀ k e h, I k e h → Wc P K rd c e h (onN (fun e' h' => ∃ j, j < k ∧ I j e' h') Q)) : ∀ k e h, I k e h → Wc P K rd (.loop c) e h Q := by
  intro k
  induction k using Nat.strongRecOn with
  | ind k ih =>
    intro e h hi
    rw [Wc_loop]
    refine (hI k e h hi).mono fun x e' h' hq => ?_
    cases x with
    | normal => obtain ⟨j, hj, hi'⟩ := hq; exact ih j hj e' h' hi'
    | exit i => exact hq
    | ret => exact hq
theorem Wc_region {id : Nat} {ops : Array Oper} : Wc P K rd (.region id ops false) e h Q ↔ Ws P K ops ops.toList e h (fun e' h' => Q .normal e' h') := by
  rw [Wc_step]
  constructor
  · rintro ⟨n, x, e', h', h1, h2⟩
    simp only [exStep] at h1
    split at h1
    · rename_i e1 h3 hr
      simp only [Option.some.injEq, Prod.mk.injEq] at h1
      obtain ⟨rfl, rfl, rfl⟩ := h1
      exact ⟨n, _, _, hr, h2⟩
    · simp at h1
  · rintro ⟨n, e', h', h1, h2⟩
    exact ⟨n, .normal, e', h', by simp only [exStep, h1], h2⟩
theorem Wc_draw {id : Nat} {ops : Array Oper} : Wc P K rd (.region id ops true) e h Q ↔ Wd P K ops e h (fun e' h' => Q .normal e' h') := by
  rw [Wc_step]
  constructor
  · rintro ⟨n, x, e', h', h1, h2⟩
    simp only [exStep] at h1
    split at h1
    · rename_i e1 h3 hr
      simp only [Option.some.injEq, Prod.mk.injEq] at h1
      obtain ⟨rfl, rfl, rfl⟩ := h1
      exact ⟨n, _, _, hr, h2⟩
    · simp at h1
  · rintro ⟨n, e', h', h1, h2⟩
    exact ⟨n, .normal, e', h', by simp only [exStep, h1], h2⟩
/-! ## Operations -/
theorem Ws_nil {ops : Array Oper} {Q : Env → AH → Prop} : Ws P K ops [] e h Q ↔ Q e h :=
  ⟨fun ⟨n, e', h', h1, h2⟩ => by simp [runOps] at h1; obtain ⟨rfl, rfl⟩ := h1; exact h2, fun hq => ⟨0, _, _, rfl, hq⟩⟩
theorem preKill_nil (d : Option Tmp) : preKill [] d e h = h := by unfold preKill; cases d <;> rfl
theorem Ws_go {ops : Array Oper} {o : Oper} {os : List Oper} {Q : Env → AH → Prop} (hw : wantedA ops o e = some true) : Ws P K ops (o :: os) e h Q ↔ Wo P K o e h (fun v h' => Ws P K ops os (putO e o.dst v) h' Q) := by
  constructor
  · rintro ⟨n, e', h', h1, h2⟩
    simp only [runOps, hw, preKill_nil] at h1
    split at h1
    · rename_i v h3 hr
      exact ⟨n, v, h3, hr, n, e', h', h1, h2⟩
    · simp at h1
  · rintro ⟨n, v, h3, h1, m, e', h', h4, h5⟩
    refine ⟨max n m, e', h', ?_, h5⟩
    simp only [runOps, hw, preKill_nil]
    rw [runOp_le (ex_le (Nat.le_max_left n m)) h1]
    exact runOps_le (ex_le (Nat.le_max_right n m)) h4
theorem Ws_skip {ops : Array Oper} {o : Oper} {os : List Oper} {Q : Env → AH → Prop} (hw : wantedA ops o e = some false) : Ws P K ops (o :: os) e h Q ↔ Ws P K ops os (putO e o.dst undef) h Q := by
  constructor
  · rintro ⟨n, e', h', h1, h2⟩
    simp only [runOps, hw] at h1
    exact ⟨n, e', h', h1, h2⟩
  · rintro ⟨n, e', h', h1, h2⟩
    exact ⟨n, e', h', by simp only [runOps, hw]; exact h1, h2⟩
theorem Ws_plain {ops : Array Oper} {d : Option Tmp} {op : Op} {t : TypeId} {p : String} {af : Array Edge} {os : List Oper} {Q : Env → AH → Prop} :
    Ws P K ops (⟨d, op, t, p, af, none⟩ :: os) e h Q ↔ Wo P K ⟨d, op, t, p, af, none⟩ e h (fun v h' => Ws P K ops os (putO e d v) h' Q) := Ws_go rfl
theorem Wo_a {o : Oper} {Q : Value → AH → Prop} (hk : opKind P o.op ≠ 3 ∨ aOp P o e h ≠ none) {v : Value} {h' : AH} (ha : aOp P o e h = some (v, h')) (hr : ∀ r, runOp P K r o e h = aOp P o e h) : Wo P K o e h Q ↔ Q v h' := by
  constructor
  · rintro ⟨n, v1, h1, h2, h3⟩
    rw [hr, ha] at h2
    simp only [Option.some.injEq, Prod.mk.injEq] at h2
    obtain ⟨rfl, rfl⟩ := h2
    exact h3
  · intro hq
    exact ⟨0, v, h', by rw [hr, ha], hq⟩
/-- Is an operation a call of a value? -/
def callsV : Op → Bool
  | .call { callee := .value _, .. } => true
  | _ => false
theorem runOp_plain {r : Ex} {o : Oper} (hc : callsV o.op = false) : runOp P K r o e h = aOp P o e h := by
  obtain ⟨d, op, t, p, af, g⟩ := o
  cases op
  case call c =>
    obtain ⟨callee, args, ats⟩ := c
    cases callee
    case value f => simp [callsV] at hc
    all_goals rfl
  all_goals rfl
theorem Wo_plain {o : Oper} {Q : Value → AH → Prop} (hc : callsV o.op = false) {v : Value} {h' : AH} (ha : aOp P o e h = some (v, h')) : Wo P K o e h Q ↔ Q v h' := by
  constructor
  · rintro ⟨n, v1, h1, h2, h3⟩
    rw [runOp_plain hc, ha] at h2
    simp only [Option.some.injEq, Prod.mk.injEq] at h2
    obtain ⟨rfl, rfl⟩ := h2
    exact h3
  · intro hq
    exact ⟨0, v, h', by rw [runOp_plain hc, ha], hq⟩
theorem Wo_call {d : Option Tmp} {f : Operand} {args : Array Operand} {ats : Array TypeId} {t : TypeId} {p : String} {af : Array Edge} {gd : Option (Nat × Bool)} {Q : Value → AH → Prop} {g : FuncId} {first cap : Array Value} (hf : ev e f = .func (.func g) first cap) :
    Wo P K ⟨d, .call ⟨.value f, args, ats⟩, t, p, af, gd⟩ e h Q ↔ Wf P K g (first.toList ++ args.toList.map (ev e) ++ cap.toList) h Q := by
  unfold Wo Wf
  simp only [runOp, invokeF, hf]
theorem Wo_callF {d : Option Tmp} {g : FuncId} {args : Array Operand} {ats : Array TypeId} {t : TypeId} {p : String} {af : Array Edge} {gd : Option (Nat × Bool)} {Q : Value → AH → Prop} :
    Wo P K ⟨d, .call ⟨.value (.func g), args, ats⟩, t, p, af, gd⟩ e h Q ↔ Wf P K g (args.toList.map (ev e)) h Q := by
  rw [Wo_call (g := g) (first := #[]) (cap := #[]) rfl]
  simp
/-- Into a function. -/
theorem callX_body {r : Ex} {f : FuncId} {args : List Value} (hk : K f = none) : callX P K r f args h = bodyF P r f args h := by
  unfold callX callF
  rw [hk]
theorem Wf_enter {f : FuncId} {args : List Value} {Q : Value → AH → Prop} {fn : Func} {c : Code} (hk : K f = none) (hf : P.funcs[f]? = some fn) (hc : fn.body = some c) :
    Wf P K f args h Q ↔ Wc P K none c (Tr.ofList args) h (fun x e' h' => (x = .normal ∨ x = .ret) ∧ ∃ v, aResults P e' h' fn.results.toList = some v ∧ Q v h') := by
  constructor
  · rintro ⟨n, v, h', h1, h2⟩
    rw [callX_body hk] at h1
    unfold bodyF at h1
    simp only [hf, hc] at h1
    split at h1
    · rename_i e1 h3 hr
      split at h1
      · rename_i v0 hv
        simp only [Option.some.injEq, Prod.mk.injEq] at h1
        obtain ⟨rfl, rfl⟩ := h1
        exact ⟨n, _, _, _, hr, .inl rfl, _, hv, h2⟩
      · simp at h1
    · rename_i e1 h3 hr
      split at h1
      · rename_i v0 hv
        simp only [Option.some.injEq, Prod.mk.injEq] at h1
        obtain ⟨rfl, rfl⟩ := h1
        exact ⟨n, _, _, _, hr, .inr rfl, _, hv, h2⟩
      · simp at h1
    · simp at h1
  · rintro ⟨n, x, e', h', h1, hx, v, h2, h3⟩
    refine ⟨n, v, h', ?_, h3⟩
    rw [callX_body hk]
    unfold bodyF
    simp only [hf, hc]
    rcases hx with rfl | rfl
    · rw [h1]; simp only [h2]
    · rw [h1]; simp only [h2]
/-- A function without a body. -/
theorem Wf_ext {f : FuncId} {args : List Value} {Q : Value → AH → Prop} {g : List Value → AH → Option (Value × AH)} (hk : K f = some (.ext g)) {v : Value} {h' : AH} (hg : g args h = some (v, h')) (hn : h.next ≤ h'.next) (hq : Q v h') :
    Wf P K f args h Q := by
  refine ⟨0, v, h', ?_, hq⟩
  unfold callX grown
  rw [hk]
  simp only [hg]
  have : Nat.ble h.next h'.next = true := Nat.ble_eq_true_of_le hn
  simp only [this]
/-- A law: contracts say that it returns true. -/
theorem law_true (G : Good P) (X : GoodX P K) {f : FuncId} {args : List Value} (hk : K f = none) (w0 : Wf P K f args h (fun v _ => v = .bool true)) {φ : Fi} {w : World} {args' : Array Value}
    (hr : R P φ h w) (hf : ∀ b, h.next ≤ b → φ b = none) (hro : AllRo h) (ha : AR φ args args'.toList) :
    Calls P f args' w fun e w' => e = .returned (.bool true) ∧ Kept w w' := by
  obtain ⟨n, v, h', h1, rfl⟩ := w0
  rw [callX_body hk] at h1
  refine calls_true (K := K) (n := n) (h' := h') G X ?_ hr hf hro ha
  unfold callF
  rw [hk]
  exact h1
end Go.Am
