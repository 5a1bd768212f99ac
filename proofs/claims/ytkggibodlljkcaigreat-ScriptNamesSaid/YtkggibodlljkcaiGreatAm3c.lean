/-
  THE ABSTRACT MACHINE IS SOUND: what it computes, every run of the model comes to. The induction's pieces.
-/
import Derived.Test.YtkggibodlljkcaiGreatAm3b
set_option linter.unusedVariables false
set_option linter.unusedSimpArgs false
namespace Go.Am
variable {P : Program} {K : Xs} {φ φ' : Fi} {h h' : AH} {w w' : World}

/-! ## Where code arrives -/
def Arr (P : Program) (m : Machine) (b : Frame) (k : List Item) (cs : List Frame) : AX → Array Value → List Deferred → World → Prop
  | .normal, a, ds, w => Steps P m (lone (At b a ds k) cs w)
  | .exit id, a, ds, w => ∃ k', Steps P m (lone (At b a ds (.code (.exit id) :: k')) cs w) ∧ exitTo id k' = exitTo id k
  | .ret, a, ds, w => ∃ k', Steps P m (lone (At b a ds (.code .ret :: k')) cs w)
theorem Arr.of_steps {m m1 : Machine} {b : Frame} {k : List Item} {cs : List Frame} {x : AX} {a : Array Value} {ds : List Deferred} (s : Steps P m m1) (r : Arr P m1 b k cs x a ds w) : Arr P m b k cs x a ds w := by
  cases x with
  | normal => exact s.trans r
  | exit id => obtain ⟨k', h1, h2⟩ := r; exact ⟨k', s.trans h1, h2⟩
  | ret => obtain ⟨k', h1⟩ := r; exact ⟨k', s.trans h1⟩

/-- The marks of ranges over functions among the deferred calls: each leads to an empty block of its own, made since the world had B blocks. -/
def Marks (P : Program) (B : Nat) (φ : Fi) (h : AH) (w : World) : List Deferred → Prop
  | [] => True
  | d :: ds => (∃ q, d.target = .collected q ∧ B ≤ q ∧ w.heap[q]? = some (.deferred (some [])) ∧ ¬ Own φ h q ∧ ∀ d' ∈ ds, d'.target ≠ .collected q) ∧ Marks P B φ h w ds
theorem Marks.tn {B : Nat} (t : Tn P φ h w φ' h' w') : ∀ {ds : List Deferred}, Marks P B φ h w ds → Marks P B φ' h' w' ds
  | [], _ => trivial
  | d :: ds, ⟨⟨q, h1, h2, h3, h4, h5⟩, hr⟩ => by
    have hlt : q < w.heap.size := (Array.getElem?_eq_some_iff.1 h3).1
    exact ⟨⟨q, h1, h2, by rw [t.keep q hlt h4]; exact h3, fun k => h4 (t.own q hlt k), h5⟩, Marks.tn t hr⟩

/-! ## What is proved by the induction -/
/-- The round that a frame is in. -/
def RD (φ : Fi) (rd : Option Nat) (b : Frame) : Prop := match rd with | none => b.roundOf = none | some l => ∃ rc, φ l = some rc ∧ b.roundOf = some rc.blk
theorem RD.mono {φ φ' : Fi} {rd : Option Nat} {b : Frame} (k : RD φ rd b) (l : Le φ φ') : RD φ' rd b := by
  cases rd with
  | none => exact k
  | some x => obtain ⟨rc, h1, h2⟩ := k; exact ⟨rc, l _ _ h1, h2⟩
def SEx (P : Program) (r : Ex) : Prop := ∀ rd ks c e h x e' h', r rd ks c e h = some (x, e', h') → ∀ (N B : Nat) φ a w ds b k cs,
  h'.next ≤ N → Free φ h.next N → EnvR φ e a → codeDst a.size c = true → R P φ h w → RD φ rd b → Marks P B φ h w ds → B ≤ w.heap.size →
  ∃ φ' a' ds' w', Tn P φ h w φ' h' w' ∧ EnvR φ' e' a' ∧ a'.size = a.size ∧ Marks P B φ' h' w' ds' ∧ Arr P (lone (At b a ds (.code c :: k)) cs w) b k cs x a' ds' w'
def SCall (P : Program) (K : Xs) (r : Ex) : Prop := ∀ f args h v h', callF P K r f args h = some (v, h') → ∀ (N : Nat) φ args' w cs,
  h'.next ≤ N → Free φ h.next N → AR φ args args' → R P φ h w →
  ∃ φ' v' w' fr, Tn P φ h w φ' h' w' ∧ VR φ' v v' ∧ Steps P (lone (Frame.enter P f args'.toArray .normal) cs w) (lone fr cs w') ∧ fr.fn = f ∧ fr.leaving P w' (.returned v')
/-- An operation, within a region. -/
def SOp (P : Program) (K : Xs) (r : Ex) : Prop := ∀ o e h v h', runOp P K r o e h = some (v, h') → ∀ (N : Nat) φ a w ds b k cs (ops : Array Oper) i rest,
  h'.next ≤ N → Free φ h.next N → EnvR φ e a → R P φ h w → ops[i]? = some o → Region.wanted o (yielded ops a) = true →
  ∃ φ' v' w', Tn P φ h w φ' h' w' ∧ VR φ' v v' ∧ Steps P (lone (At b a ds (.inRegion ops (i :: rest) :: k)) cs w) (lone (At b (putT a o.dst v') ds (.inRegion ops rest :: k)) cs w')
def SDraw (P : Program) (K : Xs) (r : Ex) : Prop := ∀ (id : Nat) ops e h e' h', exDraw P K r ops e h = some (e', h') → ∀ (N : Nat) φ a w ds b k cs,
  h'.next ≤ N → Free φ h.next N → EnvR φ e a → codeDst a.size (.region id ops true) = true → R P φ h w →
  ∃ φ' a' w', Tn P φ h w φ' h' w' ∧ EnvR φ' e' a' ∧ a'.size = a.size ∧ Steps P (lone (At b a ds (.code (.region id ops true) :: k)) cs w) (lone (At b a' ds k) cs w')

/-! ## Marks are taken when a function returns -/
theorem R.nomark (r : R P φ h w) {q : Nat} (hq : w.heap[q]? = some (.deferred (some []))) : ∀ b o rc, h.get b = some o → φ b = some rc → rc.blk ≠ q := by
  intro b o rc h1 h2 e
  obtain ⟨o', ho, hr⟩ := r.obj b o rc h1 h2
  rw [e, hq] at ho
  cases ho
  cases o <;> simp [OR] at hr
theorem unwind_marks {b : Frame} {B : Nat} {a : Array Value} {cs : List Frame} {td : List Item} (hk : b.kind = .normal) : ∀ (ds : List Deferred) (w : World), Marks P B φ h w ds → R P φ h w →
    ∃ w', Steps P (lone { At b a ds td with mode := .returning } cs w) (lone { At b a [] td with mode := .returning } cs w') ∧ R P φ h w' ∧ w'.heap.size = w.heap.size ∧ w'.os = w.os ∧ w'.tape = w.tape ∧ w'.output = w.output ∧
      (∀ c, c < B → w'.heap[c]? = w.heap[c]?)
  | [], w, _, r => ⟨w, Steps.refl P _, r, rfl, rfl, rfl, rfl, fun _ _ => rfl⟩
  | d :: ds, w, ⟨⟨q, h1, h2, h3, h4, h5⟩, hm⟩, r => by
    have hlt : q < w.heap.size := (Array.getElem?_eq_some_iff.1 h3).1
    have hnm := r.nomark h3
    let w1 : World := { w with heap := w.heap.setIfInBounds q (.deferred none) }
    have hother : ∀ c, c ≠ q → w1.heap[c]? = w.heap[c]? := fun c hc => by simp only [w1, Array.getElem?_setIfInBounds_ne (Ne.symm hc)]
    have r1 : R P φ h w1 := ⟨fun b o rc g1 g2 => by
        obtain ⟨o', ho, hr⟩ := r.obj b o rc g1 g2
        exact ⟨o', by rw [hother _ (hnm b o rc g1 g2)]; exact ho, hr⟩, r.inj, r.lt⟩
    have hm1 : Marks P B φ h w1 ds := by
      clear r1
      have hne := h5
      induction ds with
      | nil => trivial
      | cons d2 ds ih =>
        obtain ⟨⟨q2, g1, g2, g3, g4, g5⟩, gm⟩ := hm
        have : q2 ≠ q := fun e => hne d2 (by simp) (by rw [g1, e])
        exact ⟨⟨q2, g1, g2, by rw [hother q2 this]; exact g3, g4, g5⟩, ih (fun x hx => h5 x (by simp [hx])) gm (fun x hx => hne x (by simp [hx]))⟩
    obtain ⟨w', s, r', g1, g2, g3, g4, g5⟩ := unwind_marks hk ds w1 hm1 r1
    refine ⟨w', Steps.head ?_ s, r', by rw [g1]; simp [w1], g2, g3, g4, fun c hc => by rw [g5 c hc, hother c (by omega)]⟩
    have hg : (getObj q).run P w = .ok (.deferred (some [])) w := getObj_run h3 (by intro _ _ _ e; cases e)
    have hset : (setObj q (.deferred none)).run P w = .ok () w1 := setObj_run h3 (by intro _ _ _ e; cases e)
    have htake : (Instr.takeDeferred q).run P w = .ok [] w1 := by
      simp [Instr.takeDeferred, hg, hset]
    obtain ⟨tg, ar⟩ := d
    simp only at h1
    subst h1
    refine step_lone_go ?_
    simp [stepG, unwind, At, htake]

/-- What is asked of the functions that are told. -/
structure GoodX (P : Program) (K : Xs) : Prop where
  ext : ∀ f g, K f = some (.ext g) → ∀ φ args args' h w v h', g args h = some (v, h') → h.next ≤ h'.next → Free φ h.next h'.next → AR φ args args' → R P φ h w →
    ∃ φ' v' w', (callFunc f args'.toArray).run P w = .ok (.value v') w' ∧ VR φ' v v' ∧ Tn P φ h w φ' h' w'
  body : ∀ f g, K f = some (.sum g) → ∃ fn c, P.funcs[f]? = some fn ∧ fn.body = some c
  sum : ∀ f g, K f = some (.sum g) → ∀ args h v h', g args h = some (v, h') → h.next ≤ h'.next → ∀ (N : Nat) φ args' w cs, h'.next ≤ N → Free φ h.next N → AR φ args args' → R P φ h w →
    ∃ φ' v' w' fr, Tn P φ h w φ' h' w' ∧ VR φ' v v' ∧ Steps P (lone (Frame.enter P f args'.toArray .normal) cs w) (lone fr cs w') ∧ fr.fn = f ∧ fr.leaving P w' (.returned v')

/-! ## Calls -/
theorem codeDst_mono {n m : Nat} (hnm : n ≤ m) : ∀ (c : Code), codeDst n c = true → codeDst m c = true := by
  have hb : ∀ d, Nat.blt d n = true → Nat.blt d m = true := fun d hd => by
    simp only [Nat.blt_eq] at hd ⊢; omega
  intro c
  induction c with
  | region id ops draw =>
    intro hc
    simp only [codeDst, List.all_eq_true] at hc ⊢
    intro o ho
    have := hc o ho
    split at this <;> first | rfl | exact hb _ this
  | seq a b iha ihb => intro hc; simp only [codeDst, Bool.and_eq_true] at hc ⊢; exact ⟨iha hc.1, ihb hc.2⟩
  | cond _ a b iha ihb => intro hc; simp only [codeDst, Bool.and_eq_true] at hc ⊢; exact ⟨iha hc.1, ihb hc.2⟩
  | block _ c ih => exact ih
  | loop c ih => exact ih
  | scope c ih => exact ih
  | rangeFunc f ps a b iha ihb =>
    intro hc
    simp only [codeDst, Bool.and_eq_true, List.all_eq_true] at hc ⊢
    exact ⟨⟨fun d hd => hb d (hc.1.1 d hd), iha hc.1.2⟩, ihb hc.2⟩
  | _ => intro _; rfl
theorem enter_env {args args' : List Value} (ha : AR φ args args') (n : Nat) : EnvR φ (Tr.ofList args) (args'.toArray ++ Array.replicate n undef) := by
  intro i
  rw [Tr.get_ofList]
  by_cases hi : i < args.length
  · obtain ⟨v', hv', hr⟩ := ha.at i args[i] (by simp [hi])
    have hi' : i < args'.length := by rw [← ha.length]; exact hi
    have : (args'.toArray ++ Array.replicate n undef).getD i undef = v' := by
      rw [List.getElem?_eq_getElem hi'] at hv'
      simp only [Option.some.injEq] at hv'
      simp [Array.getElem?_append, hi', hv']
    rw [this]
    simp [hi]
    exact hr
  · rw [List.getElem?_eq_none (by omega)]
    exact .junk _
def resRun (a : Array Value) : ResultVar → Sem Value
  | .tmp t => pure (a.getD t undef)
  | .cell p t => do loadVar t (← asAddr (a.getD p undef))
theorem result_run (r : R P φ h w) {e : Env} {a : Array Value} (k : EnvR φ e a) {rv : ResultVar} {v : Value} (hs : aResult P e h rv = some v) :
    ∃ v', (resRun a rv).run P w = .ok v' w ∧ VR φ v v' := by
  cases rv with
  | tmp t =>
    simp only [aResult, Option.some.injEq] at hs
    subst hs
    exact ⟨a.getD t undef, rfl, k t⟩
  | cell p t =>
    simp only [aResult] at hs
    obtain ⟨u', h1, h2⟩ := load_sound r hs (k p)
    refine ⟨u', ?_, h2⟩
    unfold aLoad at hs
    have hv := k p
    split at hs
    · rename_i b off hev
      rw [ev_tmp] at hev
      rw [hev] at hv
      show ((do loadVar t (← asAddr (a.getD p undef)) : Sem Value)).run P w = .ok u' w
      generalize a.getD p undef = x at hv h1 ⊢
      cases hv
      simpa [Instr.loadAt, Instr.sureAddr, asAddr] using h1
    · simp at hs
theorem results_sound (r : R P φ h w) {e : Env} {a : Array Value} (k : EnvR φ e a) {fn : Func} {v : Value} (hs : aResults P e h fn.results.toList = some v) :
    ∃ v', (results fn a).run P w = .ok v' w ∧ VR φ v v' := by
  have key : ∀ (l : List ResultVar) (vs : List Value), l.mapM (aResult P e h) = some vs → ∃ vs', (l.mapM (resRun a)).run P w = .ok vs' w ∧ AR φ vs vs' := by
    intro l
    induction l with
    | nil =>
      intro vs hv
      simp at hv
      subst hv
      exact ⟨[], by simp, trivial⟩
    | cons rv l ih =>
      intro vs hv
      rw [List.mapM_cons] at hv
      simp only [bind, Option.bind_eq_some_iff, pure, Option.some.injEq] at hv
      obtain ⟨v1, h1, vs1, h2, rfl⟩ := hv
      obtain ⟨v1', g1, g2⟩ := result_run r k h1
      obtain ⟨vs1', g3, g4⟩ := ih vs1 h2
      exact ⟨v1' :: vs1', by rw [List.mapM_cons]; simp only [Sem.run_bind, g1, Result.andThen_ok, g3, Sem.run_pure], g2, g4⟩
  unfold aResults at hs
  cases hm : fn.results.toList.mapM (aResult P e h) with
  | none => simp [hm] at hs
  | some vs =>
    obtain ⟨vs', g1, g2⟩ := key _ _ hm
    have hrun : (fn.results.mapM (resRun a)).run P w = .ok vs'.toArray w := by
      rw [Array.mapM_eq_mapM_toList, Sem.run_map, g1]
      rfl
    have hlen := g2.length
    rw [hm] at hs
    have hres : results fn a = (fn.results.mapM (resRun a)).bind fun vs => pure (if h : vs.size = 1 then vs[0] else .tuple vs) := rfl
    have hr0 : (results fn a).run P w = .ok (if h : vs'.toArray.size = 1 then vs'.toArray[0] else .tuple vs'.toArray) w := by
      rw [hres, Sem.run_bind', hrun]
      rfl
    match vs, vs', hs, g2, hlen, hr0 with
    | [u], [u'], hs, g2, _, hr0 =>
      simp only [Option.some.injEq] at hs
      subst hs
      exact ⟨u', by rw [hr0]; simp, g2.1⟩
    | [], [], hs, g2, _, hr0 =>
      simp only [Option.some.injEq] at hs
      subst hs
      exact ⟨.tuple #[], by rw [hr0]; simp, AR.tuple trivial⟩
    | x :: y :: l, x' :: y' :: l', hs, g2, _, hr0 =>
      simp only [Option.some.injEq] at hs
      subst hs
      exact ⟨.tuple (x' :: y' :: l').toArray, by rw [hr0]; simp, AR.tuple (by simpa using g2)⟩

def SBody (P : Program) (r : Ex) : Prop := ∀ f args h v h', bodyF P r f args h = some (v, h') → ∀ (N : Nat) φ args' w cs,
  h'.next ≤ N → Free φ h.next N → AR φ args args' → R P φ h w →
  ∃ φ' v' w' fr, Tn P φ h w φ' h' w' ∧ VR φ' v v' ∧ Steps P (lone (Frame.enter P f args'.toArray .normal) cs w) (lone fr cs w') ∧ fr.fn = f ∧ fr.leaving P w' (.returned v')
theorem body_sound {r : Ex} (G : Good P) (S : SEx P r) : SBody P r := by
  intro f args h v h' hs N φ args' w cs hN hF ha hr
  unfold bodyF at hs
  split at hs
  rotate_left
  · simp at hs
  rename_i fn hfn
  split at hs
  rotate_left
  · simp at hs
  rename_i c hc
  let b : Frame := { (default : Frame) with fn := f, kind := .normal, roundOf := none }
  have henter : Frame.enter P f args'.toArray .normal = At b (args'.toArray ++ Array.replicate (fn.ntmps - args'.toArray.size) undef) [] [.code c] := by
    simp [Frame.enter, At, hfn, hc, b]
  have hdst : codeDst (args'.toArray ++ Array.replicate (fn.ntmps - args'.toArray.size) undef).size c = true := codeDst_mono (by simp; omega) c (G.dst f fn c hfn hc)
  have fin : ∀ (x : AX) e1 h1, (x = .normal ∨ x = .ret) → r none [] c (Tr.ofList args) h = some (x, e1, h1) → (match aResults P e1 h1 fn.results.toList with | some v => some (v, h1) | none => none) = some (v, h') →
      ∃ φ' v' w' fr, Tn P φ h w φ' h' w' ∧ VR φ' v v' ∧ Steps P (lone (Frame.enter P f args'.toArray .normal) cs w) (lone fr cs w') ∧ fr.fn = f ∧ fr.leaving P w' (.returned v') := by
    intro x e1 h1 hx hrun hres
    split at hres
    rotate_left
    · simp at hres
    rename_i v0 hv0
    simp only [Option.some.injEq, Prod.mk.injEq] at hres
    obtain ⟨rfl, rfl⟩ := hres
    obtain ⟨φ1, a1, ds1, w1, t1, k1, sz1, m1, ar1⟩ := S none [] c (Tr.ofList args) h x e1 h1 hrun N w.heap.size φ (args'.toArray ++ Array.replicate (fn.ntmps - args'.toArray.size) undef) w [] b [] cs hN hF (enter_env ha _) hdst hr (rfl : RD φ none b) trivial (Nat.le_refl _)
    rw [← henter] at ar1
    have harr : ∃ td, Steps P (lone (Frame.enter P f args'.toArray .normal) cs w) (lone { At b a1 ds1 td with mode := .returning } cs w1) := by
      rcases hx with rfl | rfl
      · exact ⟨[], Steps.trans ar1 (.one (step_lone_go (by simp [stepG, stepG.exec, At, b])))⟩
      · obtain ⟨k', s⟩ := ar1
        exact ⟨.code .ret :: k', Steps.trans s (.one (step_lone_go (by simp [stepG, stepG.exec, At, b])))⟩
    obtain ⟨td, s1⟩ := harr
    obtain ⟨w2, s2, r2, g1, g2, g3, g4, g5⟩ := unwind_marks (P := P) (φ := φ1) (h := h1) (b := b) (B := w.heap.size) (a := a1) (cs := cs) (td := td) rfl ds1 w1 m1 t1.rel
    obtain ⟨v', hv1, hv2⟩ := results_sound r2 k1 hv0
    have t2 : Tn P φ h w φ1 h1 w2 := ⟨t1.le, t1.new, t1.nle, r2, by rw [g1]; exact t1.size, g2.trans t1.os, g3.trans t1.tape, g4.trans t1.output,
      fun c hc ho => by rw [g5 c hc]; exact t1.keep c hc ho, t1.old⟩
    refine ⟨φ1, v', w2, _, t2, hv2, s1.trans s2, rfl, rfl, rfl, rfl, fn, hfn, hv1⟩
  split at hs
  · rename_i e1 h1 hrun
    exact fin .normal e1 h1 (.inl rfl) hrun hs
  · rename_i e1 h1 hrun
    exact fin .ret e1 h1 (.inr rfl) hrun hs
  · simp at hs
theorem call_sound {r : Ex} (G : Good P) (X : GoodX P K) (S : SEx P r) : SCall P K r := by
  intro f args h v h' hs N φ args' w cs hN hF ha hr
  unfold callF at hs
  split at hs
  · rename_i g hk
    obtain ⟨h1, h2⟩ := grown_next hs
    exact X.sum f g hk args h v h' h2 h1 N φ args' w cs hN hF ha hr
  · simp at hs
  · exact body_sound G S f args h v h' hs N φ args' w cs hN hF ha hr
theorem call_body {r : Ex} (X : GoodX P K) {f : FuncId} {args : List Value} {v : Value} (hs : callF P K r f args h = some (v, h')) : ∃ fn c, P.funcs[f]? = some fn ∧ fn.body = some c := by
  unfold callF at hs
  split at hs
  · rename_i g hk
    exact X.body f g hk
  · simp at hs
  · unfold bodyF at hs
    split at hs
    · rename_i fn hfn
      split at hs
      · rename_i c hc
        exact ⟨fn, c, hfn, hc⟩
      · simp at hs
    · simp at hs
end Go.Am
