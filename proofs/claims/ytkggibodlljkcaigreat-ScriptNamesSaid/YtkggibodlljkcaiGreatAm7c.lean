/-
  A MACHINE FOR THE KERNEL: regions and code, and that it says what the abstract machine says.
-/
import Derived.Test.YtkggibodlljkcaiGreatAm7b
set_option linter.unusedVariables false
set_option linter.unusedSimpArgs false
namespace Go.Am
abbrev Gate := Option (Pt × Bool)
inductive GOp where
  | op (g : Gate) (d : Option Pt) (k : KO)
  | call (g : Gate) (d : Option Pt) (f : Src) (args : List Src)
def gguard (ops : Array Oper) (o : Oper) : Option Gate :=
  match o.guard with
  | none => some none
  | some (j, w) => match (ops[j]?).bind (·.dst) with | some d => some (some (pt d, w)) | none => none
def gdst (d : Option Tmp) : Option Pt := match d with | some t => some (pt t) | none => none
section
variable (P : Program) (F : Fs)
noncomputable def gcomp (ops : Array Oper) (o : Oper) : Option GOp :=
  match gguard ops o with
  | none => none
  | some g =>
    match o.op with
    | .call { callee := .value f, args, .. } => some (.call g (gdst o.dst) (src f) (args.toList.map src))
    | _ => some (.op g (gdst o.dst) (gkind P o))
noncomputable def gcompL (ops : Array Oper) : List Oper → Option (List GOp)
  | [] => some []
  | o :: os => match gcomp P ops o with | some x => (match gcompL ops os with | some l => some (x :: l) | none => none) | none => none
noncomputable def gcompJ (ops : Array Oper) : List Nat → Option (List GOp)
  | [] => some []
  | j :: js => match ops[j]? with | some o => (match gcomp P ops o with | some x => (match gcompJ ops js with | some l => some (x :: l) | none => none) | none => none) | none => none
noncomputable def gops (ops : Array Oper) (draw : Bool) : Option (List GOp) :=
  match draw with
  | false => gcompL P ops ops.toList
  | true => match plan P ops with | some (ord, []) => gcompJ P ops ord | _ => none
noncomputable def gput (d : Option Pt) (v : Value) (e : Env) : Env := Option.rec (motive := fun _ => Env) e (fun p => Tr.setP (some v) p e) d
abbrev GK := Env → FH → Option (Env × FH)
noncomputable def gFin (d : Option Pt) (e : Env) (ih : GK) (y : Option (Value × FH)) : Option (Env × FH) := onP y fun v h => ih (gput d v e) h
def beqB (b w : Bool) : Bool := cond b w (cond w false true)
def asBoolO (v : Option Value) : Option Bool := match v with | some (.bool b) => some b | _ => none
theorem asBoolO_some {v : Option Value} {b : Bool} (h : asBoolO v = some b) : v = some (.bool b) := by
  unfold asBoolO at h
  split at h
  · simp only [Option.some.injEq] at h
    rw [h]
  · simp at h
noncomputable def gGate (w : Bool) (d : Option Pt) (e : Env) (h : FH) (ih : GK) (y : Option (Value × FH)) (b : Option Value) : Option (Env × FH) := onO1 (asBoolO b) fun b => cnd (beqB b w) (gFin d e ih y) (ih (gput d undef e) h)
noncomputable def gAny (g : Gate) (d : Option Pt) (e : Env) (h : FH) (ih : GK) (y : Option (Value × FH)) : Option (Env × FH) :=
  Option.rec (motive := fun _ => Option (Env × FH)) (gFin d e ih y) (fun p => gGate p.2 d e h ih y (Tr.getP p.1 e)) g
noncomputable def gargs {β : Type} (e : Env) : List Src → (List Value → β) → β
  | [], k => k []
  | a :: as, k => rdS a e fun v => gargs e as fun vs => k (v :: vs)
noncomputable def gOp1 (g : Gate) (d : Option Pt) (k : KO) (ih : GK) : GK := fun e h => gAny g d e h ih (k e h)
noncomputable def gCall1 (r : FEx) (g : Gate) (d : Option Pt) (f : Src) (as : List Src) (ih : GK) : GK := fun e h => gAny g d e h ih (rdS f e fun f => gargs e as fun vs => nfR (finvokeF P F r f vs h))
noncomputable def gstep (r : FEx) (o : GOp) (ih : GK) : GK := GOp.rec (motive := fun _ => GK → GK) gOp1 (gCall1 P F r) o ih
noncomputable def grun (r : FEx) (l : List GOp) : GK := List.rec (motive := fun _ => GK) (fun e h => some (e, h)) (fun o _ ih => gstep P F r o ih) l
noncomputable def gNorm (y : Option (Env × FH)) : Option (AX × Env × FH) := onP y fun e h => some (.normal, e, h)
noncomputable def gRegion2 (r : FEx) (ops : Array Oper) (draw : Bool) (e : Env) (h : FH) : Option (AX × Env × FH) := Bool.rec (motive := fun _ => Option (AX × Env × FH)) (gNorm (frunOps P F r ops ops.toList e h)) (gNorm (fexDraw P F r ops e h)) draw
noncomputable def gRegion1 (r : FEx) (ops : Array Oper) (draw : Bool) (e : Env) (h : FH) (l : Option (List GOp)) : Option (AX × Env × FH) :=
  Option.rec (motive := fun _ => Option (AX × Env × FH)) (gRegion2 P F r ops draw e h) (fun l => gNorm (grun P F r l e h)) l
abbrev GC := FEx → Option Nat → Env → FH → Option (AX × Env × FH)
def gSkip : GC := fun _ _ e h => some (.normal, e, h)
noncomputable def gRegion (ops : Array Oper) (draw : Bool) : GC := fun r rd e h => gRegion1 P F r ops draw e h (gops P ops draw)
abbrev Y3 := Option (AX × Env × FH)
noncomputable def gThen (r : FEx) (rd : Option Nat) (b : Code) (x : Y3) : Y3 := onP x fun a q => Prod.rec (motive := fun _ => Y3) (fun e h => AX.rec (motive := fun _ => Y3) (r rd b e h) (fun id => some (.exit id, e, h)) (some (.ret, e, h)) a) q
noncomputable def gSeq (a b : Code) : GC := fun r rd e h => gThen r rd b (r rd a e h)
noncomputable def gIf (r : FEx) (rd : Option Nat) (a b : Code) (e : Env) (h : FH) (v : Value) : Y3 := onO1 (asBool v) fun t => r rd (cnd t a b) e h
noncomputable def gCond (c : Operand) (a b : Code) : GC := fun r rd e h => rdS (src c) e (gIf r rd a b e h)
noncomputable def gOut (id : Nat) (x : Y3) : Y3 := onP x fun a q => AX.rec (motive := fun _ => Y3) (some (.normal, q)) (fun id' => cnd (Nat.beq id' id) (some (.normal, q)) (some (.exit id', q))) (some (.ret, q)) a
noncomputable def gBlock (id : Nat) (c : Code) : GC := fun r rd e h => gOut id (r rd c e h)
noncomputable def gLoop (c : Code) : GC := fun r rd e h => gThen r rd (.loop c) (r rd c e h)
def gScope (c : Code) : GC := fun r rd e h => r rd c e h
def gExit (id : Nat) : GC := fun _ _ e h => some (.exit id, e, h)
def gRet : GC := fun _ _ e h => some (.ret, e, h)
noncomputable def gRange (f : Operand) (ps : List Tmp) (a b : Code) : GC := fun r rd e h => match faroundOk rd h with | false => none | true => fexRange P F r f ps a b e h
def gBad : GC := fun _ _ _ _ => none
noncomputable def mSeq (a b : Code) (_ _ : GC) : GC := gSeq a b
noncomputable def mCond (c : Operand) (a b : Code) (_ _ : GC) : GC := gCond c a b
noncomputable def mBlock (id : Nat) (c : Code) (_ : GC) : GC := gBlock id c
noncomputable def mLoop (c : Code) (_ : GC) : GC := gLoop c
def mScope (c : Code) (_ : GC) : GC := gScope c
def mLabel (_ : Nat) : GC := gSkip
noncomputable def mRegion (_ : Nat) (ops : Array Oper) (d : Bool) : GC := gRegion P F ops d
noncomputable def mRange (f : Operand) (ps : Array Tmp) (a b : Code) (_ _ : GC) : GC := gRange P F f ps.toList a b
def mGoto (_ : Nat) : GC := gBad
def mRefuse (_ : String) : GC := gBad
noncomputable def gdisp (c : Code) : GC :=
  @Code.rec (fun _ => GC) gSkip (mRegion P F) mSeq mCond mBlock mLoop (mRange P F) gExit mScope mLabel mGoto gRet mRefuse c
noncomputable def gexStep (r : FEx) : FEx := fun rd c e h => gdisp P F c r rd e h
noncomputable def gex (n : Nat) : FEx := Nat.rec (motive := fun _ => FEx) (fun _ _ _ _ => none) (fun _ ih => gexStep P F ih) n
end
section
variable {P : Program} {F : Fs} {K : Xs} {fr : FEx} {r : Ex} {h h' : FH}
theorem gput_eq (d : Option Tmp) (v : Value) (e : Env) : gput (gdst d) v e = putO e d v := by
  cases d with
  | none => rfl
  | some t => exact Tr.setP_pt e t v
theorem gargs_eq {β : Type} (e : Env) : ∀ (args : List Operand) (k : List Value → β), gargs e (args.map src) k = k (args.map (ev e))
  | [], k => rfl
  | a :: as, k => by simp only [List.map_cons, gargs, rdS_eq, gargs_eq e as]
theorem beqB_eq (b w : Bool) : beqB b w = (b == w) := by cases b <;> cases w <;> rfl
theorem gAny_ok {ops : Array Oper} {o : Oper} {g : Gate} (hg : gguard ops o = some g) {e : Env} {ih : GK} {y : Option (Value × FH)} {z : Env × FH} (hs : gAny g (gdst o.dst) e h ih y = some z) :
    (wantedA ops o e = some true ∧ ∃ v h1, y = some (v, h1) ∧ ih (putO e o.dst v) h1 = some z) ∨ (wantedA ops o e = some false ∧ ih (putO e o.dst undef) h = some z) := by
  have fin : gFin (gdst o.dst) e ih y = some z → ∃ v h1, y = some (v, h1) ∧ ih (putO e o.dst v) h1 = some z := by
    intro hf
    obtain ⟨v, h1, g1, g2⟩ := onP_some hf
    rw [gput_eq] at g2
    exact ⟨v, h1, g1, g2⟩
  unfold gguard at hg
  split at hg
  · rename_i hgd
    simp only [Option.some.injEq] at hg
    subst hg
    refine .inl ⟨?_, fin hs⟩
    unfold wantedA
    rw [hgd]
  · rename_i j w hgd
    split at hg
    · rename_i d hd
      simp only [Option.some.injEq] at hg
      subst hg
      have hs1 : gGate w (gdst o.dst) e h ih y (Tr.getP (pt d) e) = some z := hs
      rw [Tr.getP_pt] at hs1
      obtain ⟨b, g1, g2⟩ := onO1_some hs1
      have hb := asBoolO_some g1
      have hw : wantedA ops o e = some (b == w) := by
        unfold wantedA
        rw [hgd]
        simp only [hd, hb]
      rw [beqB_eq, cnd_eq] at g2
      cases hbw : (b == w) with
      | true =>
        rw [hbw, cond_true] at g2
        exact .inl ⟨by rw [hw, hbw], fin g2⟩
      | false =>
        rw [hbw, cond_false, gput_eq] at g2
        exact .inr ⟨by rw [hw, hbw], g2⟩
    · simp at hg
theorem gstep_ok (B : Both F K) (S : FSim fr r) {ops : Array Oper} {o : Oper} {x : GOp} (hx : gcomp P ops o = some x) {e : Env} {ih : GK} {z : Env × FH} (hs : gstep P F fr x ih e h = some z) :
    (wantedA ops o e = some true ∧ ∃ v h1, runOp P K r o e h.abs = some (v, h1.abs) ∧ ih (putO e o.dst v) h1 = some z) ∨ (wantedA ops o e = some false ∧ ih (putO e o.dst undef) h = some z) := by
  unfold gcomp at hx
  split at hx
  · simp at hx
  rename_i g hg
  split at hx
  · rename_i f args ats hop
    simp only [Option.some.injEq] at hx
    subst hx
    rcases gAny_ok hg hs with ⟨h1, v, h2, h3, h4⟩ | q
    · refine .inl ⟨h1, v, h2, ?_, h4⟩
      rw [rdS_eq, gargs_eq, nfR_eq] at h3
      refine frunOp_abs B S ?_
      unfold frunOp
      rw [hop]
      exact h3
    · exact .inr q
  · rename_i hne
    simp only [Option.some.injEq] at hx
    subst hx
    rcases gAny_ok hg hs with ⟨h1, v, h2, h3, h4⟩ | q
    · refine .inl ⟨h1, v, h2, ?_, h4⟩
      refine frunOp_abs B S ?_
      unfold frunOp
      split
      · rename_i hop
        exact absurd hop (hne _ _ _)
      · exact gkind_ok h3
    · exact .inr q
theorem grun_cons {x : GOp} {l : List GOp} : grun P F fr (x :: l) = gstep P F fr x (grun P F fr l) := rfl
theorem grunL_ok (B : Both F K) (S : FSim fr r) {ops : Array Oper} : ∀ {os : List Oper} {l : List GOp} {e e' : Env} {h h' : FH}, gcompL P ops os = some l → grun P F fr l e h = some (e', h') → runOps P K r [] ops os e h.abs = some (e', h'.abs)
  | [], l, e, e', h, h', hl, hs => by
    simp only [gcompL, Option.some.injEq] at hl
    subst hl
    have : some (e, h) = some (e', h') := hs
    simp only [Option.some.injEq, Prod.mk.injEq] at this
    obtain ⟨rfl, rfl⟩ := this
    rfl
  | o :: os, l, e, e', h, h', hl, hs => by
    unfold gcompL at hl
    split at hl
    rotate_left
    · simp at hl
    rename_i x hx
    split at hl
    rotate_left
    · simp at hl
    rename_i l1 hl1
    simp only [Option.some.injEq] at hl
    subst hl
    rw [grun_cons] at hs
    unfold runOps
    rcases gstep_ok B S hx hs with ⟨h1, v, h2, h3, h4⟩ | ⟨h1, h4⟩
    · rw [h1]
      simp only
      rw [preKill_none, h3]
      exact grunL_ok B S hl1 h4
    · rw [h1]
      exact grunL_ok B S hl1 h4
theorem grunJ_ok (B : Both F K) (S : FSim fr r) {ops : Array Oper} : ∀ {os : List Nat} {l : List GOp} {e e' : Env} {h h' : FH}, gcompJ P ops os = some l → grun P F fr l e h = some (e', h') → ∃ l', runL P K r ops os e h.abs = some l' ∧ l'.getLast? = some (e', h'.abs)
  | [], l, e, e', h, h', hl, hs => by
    simp only [gcompJ, Option.some.injEq] at hl
    subst hl
    have : some (e, h) = some (e', h') := hs
    simp only [Option.some.injEq, Prod.mk.injEq] at this
    obtain ⟨rfl, rfl⟩ := this
    exact ⟨_, rfl, rfl⟩
  | j :: js, l, e, e', h, h', hl, hs => by
    unfold gcompJ at hl
    split at hl
    rotate_left
    · simp at hl
    rename_i o ho
    split at hl
    rotate_left
    · simp at hl
    rename_i x hx
    split at hl
    rotate_left
    · simp at hl
    rename_i l1 hl1
    simp only [Option.some.injEq] at hl
    subst hl
    rw [grun_cons] at hs
    unfold runL
    rw [ho]
    simp only
    rcases gstep_ok B S hx hs with ⟨h1, v, h2, h3, h4⟩ | ⟨h1, h4⟩
    · rw [h1]
      simp only
      obtain ⟨l', g1, g2⟩ := grunJ_ok B S hl1 h4
      rw [h3]
      simp only [g1]
      exact ⟨_, rfl, by simp [List.getLast?_cons, g2]⟩
    · rw [h1]
      simp only
      obtain ⟨l', g1, g2⟩ := grunJ_ok B S hl1 h4
      simp only [g1]
      exact ⟨_, rfl, by simp [List.getLast?_cons, g2]⟩
theorem gNorm_some {y : Option (Env × FH)} {x : AX} {e' : Env} (hs : gNorm y = some (x, e', h')) : x = .normal ∧ y = some (e', h') := by
  obtain ⟨e1, h1, g1, g2⟩ := onP_some hs
  simp only [Option.some.injEq, Prod.mk.injEq] at g2
  obtain ⟨rfl, rfl, rfl⟩ := g2
  exact ⟨rfl, g1⟩
theorem gRegion_ok (B : Both F K) (S : FSim fr r) {id : Nat} {ops : Array Oper} {draw : Bool} {rd : Option Nat} {e e' : Env} {x : AX} (hs : gRegion P F ops draw fr rd e h = some (x, e', h')) :
    exStep P K r rd [] (.region id ops draw) e h.abs = some (x, e', h'.abs) := by
  unfold gRegion gRegion1 at hs
  cases hl : gops P ops draw with
  | some l =>
    rw [hl] at hs
    obtain ⟨rfl, h2⟩ := gNorm_some hs
    unfold gops at hl
    cases draw with
    | false =>
      simp only [exStep, grunL_ok B S hl h2]
    | true =>
      simp only at hl
      split at hl
      · rename_i ord hp
        obtain ⟨l', g1, g2⟩ := grunJ_ok B S hl h2
        simp only [exStep, exDraw, hp, g1, List.all_nil, g2]
      · simp at hl
  | none =>
    rw [hl] at hs
    cases draw with
    | false =>
      obtain ⟨rfl, h2⟩ := gNorm_some hs
      simp only [exStep, frunOps_abs B S h2]
    | true =>
      obtain ⟨rfl, h2⟩ := gNorm_some hs
      simp only [exStep, fexDraw_abs B S h2]
theorem gThen_eq {rd : Option Nat} {b : Code} {x : Y3} : gThen fr rd b x = match x with | some (.normal, e', h') => fr rd b e' h' | x => x := by
  cases x with
  | none => rfl
  | some p => obtain ⟨a, e, h⟩ := p; cases a <;> rfl
theorem gOut_eq {id : Nat} {x : Y3} : gOut id x = match x with | some (.exit id', e', h') => cond (Nat.beq id' id) (some (.normal, e', h')) (some (.exit id', e', h')) | x => x := by
  cases x with
  | none => rfl
  | some p =>
    obtain ⟨a, e, h⟩ := p
    cases a <;> first | rfl | skip
    rename_i id'
    show cnd (Nat.beq id' id) _ _ = _
    rw [cnd_eq]
theorem gIf_eq {rd : Option Nat} {a b : Code} {e : Env} {v : Value} : gIf fr rd a b e h v = match v with | .bool t => cond t (fr rd a e h) (fr rd b e h) | _ => none := by
  cases v <;> first | rfl | skip
  rename_i t
  cases t <;> rfl
theorem gexStep_abs (B : Both F K) (S : FSim fr r) : FSim (gexStep P F fr) (exStep P K r) := by
  intro rd c e h x e' h' hs
  have same : ∀ c, gdisp P F c fr rd e h = fexStep P F fr rd c e h → gexStep P F fr rd c e h = some (x, e', h') → exStep P K r rd [] c e h.abs = some (x, e', h'.abs) := by
    intro c he hq
    refine fexStep_abs B S rd c e h x e' h' ?_
    rw [← he]
    exact hq
  cases c with
  | region id ops draw => exact gRegion_ok B S hs
  | cond c a b =>
    refine same _ ?_ hs
    show rdS (src c) e (gIf fr rd a b e h) = _
    rw [rdS_eq, gIf_eq]
    rfl
  | seq a b =>
    refine same _ ?_ hs
    show gThen fr rd b (fr rd a e h) = _
    rw [gThen_eq]
    rfl
  | loop c =>
    refine same _ ?_ hs
    show gThen fr rd (.loop c) (fr rd c e h) = _
    rw [gThen_eq]
    rfl
  | block id c =>
    refine same _ ?_ hs
    show gOut id (fr rd c e h) = _
    rw [gOut_eq]
    rfl
  | _ => exact same _ rfl hs
theorem gex_abs (B : Both F K) : ∀ n, FSim (gex P F n) (ex P K n)
  | 0 => fun _ _ _ _ _ _ _ hs => by simp [gex] at hs
  | n + 1 => gexStep_abs B (gex_abs B n)
theorem isTrueG_abs (B : Both F K) {n : Nat} {f : FuncId} (hs : isTrueF (fcallF P F (gex P F n) f [] ⟨.nil, 0⟩) = true) : isTrue (callF P K (ex P K n) f [] ⟨.nil, 0⟩) = true := by
  unfold isTrueF at hs
  split at hs
  · rename_i h1 hc
    have := fcallF_abs B (gex_abs B n) hc
    have he : FH.abs ⟨.nil, 0⟩ = ⟨.nil, 0⟩ := rfl
    rw [he] at this
    rw [this]
    rfl
  · simp at hs
end
end Go.Am
