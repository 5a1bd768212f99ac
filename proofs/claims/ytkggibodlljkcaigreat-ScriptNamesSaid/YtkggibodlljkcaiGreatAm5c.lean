/-
  THE FASTER MACHINE SAYS WHAT THE ABSTRACT MACHINE SAYS: code and calls.
-/
import Derived.Test.YtkggibodlljkcaiGreatAm5b
set_option linter.unusedVariables false
set_option linter.unusedSimpArgs false
namespace Go.Am
section
variable {P : Program} {h h' : FH}
theorem toL_box (l : List Value) : toL (Tr.nil.setL 0 l) l.length = l := by
  have := toL_append .nil 0 l
  simpa [toL, Tr.subL] using this
theorem fOp_abs {o : Oper} {e : Env} {v : Value} (hs : fOp P o e h = some (v, h')) : aOp P o e h.abs = some (v, h'.abs) := by
  unfold fOp at hs
  split at hs
  · rename_i t hop
    unfold aOp
    rw [hop]
    simp only
    unfold fZero at hs
    cases hz : zeroCellsOf P t with
    | none => rw [hz] at hs; simp at hs
    | some z =>
      rw [hz] at hs
      simp only [Option.some.injEq, Prod.mk.injEq] at hs
      obtain ⟨rfl, rfl⟩ := hs
      simp only [aNew, FH.abs_alloc, FObj.abs, toL_ofList]
      rfl
  · rename_i t x hop
    unfold aOp
    rw [hop]
    simp only
    generalize ev e x = q at hs ⊢
    cases q <;> first
      | (simp at hs; done)
      | (simp only [Option.some.injEq, Prod.mk.injEq] at hs
         obtain ⟨rfl, rfl⟩ := hs
         simp only [aNew, FH.abs_alloc, FObj.abs, toL_box]
         rfl)
  · rename_i hop
    unfold aOp
    rw [hop]
    exact fBuildSlice_abs hs
  · rename_i hop
    unfold aOp
    rw [hop]
    obtain ⟨v0, h1, h2⟩ := map_pair hs
    cases h2
    simp only [fLoad_abs h1, Option.map_some]
  · rename_i t a v0 hop
    unfold aOp
    rw [hop]
    simp only
    cases hst : fStore P h t (ev e a) (ev e v0) with
    | none => rw [hst] at hs; simp at hs
    | some h1 =>
      rw [hst] at hs
      simp only [Option.map_some, Option.some.injEq, Prod.mk.injEq] at hs
      obtain ⟨rfl, rfl⟩ := hs
      simp only [fStore_abs hst, Option.map_some]
  · rename_i hop
    unfold aOp
    rw [hop]
    exact fConvert_abs hs
  · rename_i t r hop
    unfold aOp
    rw [hop]
    simp only
    cases r with
    | some _ => simp at hs
    | none =>
      simp only [Option.some.injEq, Prod.mk.injEq] at hs
      obtain ⟨rfl, rfl⟩ := hs
      simp only [FH.abs_alloc, FObj.abs]
      rfl
  · rename_i hop
    unfold aOp
    rw [hop]
    exact fMakeSlice_abs hs
  · rename_i hop
    unfold aOp
    rw [hop]
    obtain ⟨v0, h1, h2⟩ := map_pair hs
    cases h2
    simp only [fSlice_abs h1, Option.map_some]
  · rename_i hop
    unfold aOp
    rw [hop]
    obtain ⟨v0, h1, h2⟩ := map_pair hs
    cases h2
    simp only [fLookup_abs h1, Option.map_some]
  · rename_i t m k v0 hop
    unfold aOp
    rw [hop]
    simp only
    cases hst : fMapUpdate P h t (ev e m) (ev e k) (ev e v0) with
    | none => rw [hst] at hs; simp at hs
    | some h1 =>
      rw [hst] at hs
      simp only [Option.map_some, Option.some.injEq, Prod.mk.injEq] at hs
      obtain ⟨rfl, rfl⟩ := hs
      simp only [fMapUpdate_abs hst, Option.map_some]
  · rename_i t x hop
    unfold aOp
    rw [hop]
    simp only
    split at hs
    rotate_left
    · simp at hs
    rename_i s hu hev
    simp only [Option.some.injEq, Prod.mk.injEq] at hs
    obtain ⟨rfl, rfl⟩ := hs
    simp only [hu, hev, FH.abs_alloc, FObj.abs]
    rfl
  · rename_i it hop
    unfold aOp
    rw [hop]
    simp only
    split at hs
    rotate_left
    · simp at hs
    rename_i r hev
    split at hs
    rotate_left
    · simp at hs
    rename_i s pos hg
    simp only [hev, FH.abs_get, hg, Option.map_some, FObj.abs]
    split at hs
    · rename_i hc
      simp only [Option.some.injEq, Prod.mk.injEq] at hs
      obtain ⟨rfl, rfl⟩ := hs
      rw [if_pos hc, FH.abs_set]
      rfl
    · rename_i hc
      simp only [Option.some.injEq, Prod.mk.injEq] at hs
      obtain ⟨rfl, rfl⟩ := hs
      rw [if_neg hc]
  · rename_i hop
    unfold aOp
    rw [hop]
    exact fBuiltin_abs hs
  · split at hs
    · rename_i hc
      split at hs
      · rename_i v0 h1 hv
        simp only [Option.some.injEq, Prod.mk.injEq] at hs
        obtain ⟨rfl, rfl⟩ := hs
        exact calm_at hc hv
      · simp at hs
    · simp at hs
theorem preKill_none (d : Option Tmp) (e : Env) (h : AH) : preKill [] d e h = h := by
  cases d <;> simp [preKill]

/-! ## What is told to both -/
structure Both (F : Fs) (K : Xs) : Prop where
  no : ∀ f, F f = none → K f = none
  ext : ∀ f g, F f = some (.ext g) → ∃ g', K f = some (.ext g') ∧ ∀ args h v, g args = some v → g' args h = some (v, h)
  sum : ∀ f g, F f = some (.sum g) → ∃ g', K f = some (.sum g') ∧ ∀ args h v h', g args h = some (v, h') → g' args h.abs = some (v, h'.abs) ∧ h.next ≤ h'.next
def FSim (fr : FEx) (r : Ex) : Prop := ∀ rd c e h x e' h', fr rd c e h = some (x, e', h') → r rd [] c e h.abs = some (x, e', h'.abs)
theorem fResult_abs {e : Env} {rv : ResultVar} {v : Value} (hs : fResult P e h rv = some v) : aResult P e h.abs rv = some v := by
  cases rv with
  | tmp t => exact hs
  | cell a t => exact fLoad_abs hs
theorem fResultL_abs {e : Env} : ∀ {rs : List ResultVar} {vs : List Value}, fResultL P e h rs = some vs → rs.mapM (aResult P e h.abs) = some vs
  | [], vs, hs => by
    simp only [fResultL, Option.some.injEq] at hs
    subst hs
    rfl
  | r :: rs, vs, hs => by
    unfold fResultL at hs
    split at hs
    rotate_left
    · simp at hs
    rename_i v hv
    split at hs
    rotate_left
    · simp at hs
    rename_i vs' hvs
    simp only [Option.some.injEq] at hs
    subst hs
    simp [List.mapM_cons, fResult_abs hv, fResultL_abs hvs]
theorem fResults_abs {e : Env} {rs : List ResultVar} {v : Value} (hs : fResults P e h rs = some v) : aResults P e h.abs rs = some v := by
  unfold fResults at hs
  unfold aResults
  split at hs
  · rename_i v0 h1
    rw [fResultL_abs h1]
    exact hs
  · rename_i vs hne h1
    rw [fResultL_abs h1]
    rcases vs with _ | ⟨a, _ | ⟨b, t⟩⟩
    · exact hs
    · exact (hne a rfl).elim
    · exact hs
  · simp at hs
variable {F : Fs} {K : Xs} {fr : FEx} {r : Ex}
theorem fbodyF_abs (S : FSim fr r) {f : FuncId} {args : List Value} {v : Value} (hs : fbodyF P fr f args h = some (v, h')) : bodyF P r f args h.abs = some (v, h'.abs) := by
  unfold fbodyF at hs
  unfold bodyF
  split at hs
  rotate_left
  · simp at hs
  rename_i fn hfn
  rw [hfn]
  simp only
  split at hs
  rotate_left
  · simp at hs
  rename_i c hc
  rw [hc]
  simp only
  split at hs
  · rename_i e1 h1 hr
    rw [S _ _ _ _ _ _ _ hr]
    simp only
    split at hs
    rotate_left
    · simp at hs
    rename_i v0 hv
    simp only [Option.some.injEq, Prod.mk.injEq] at hs
    obtain ⟨rfl, rfl⟩ := hs
    rw [fResults_abs hv]
  · rename_i e1 h1 hr
    rw [S _ _ _ _ _ _ _ hr]
    simp only
    split at hs
    rotate_left
    · simp at hs
    rename_i v0 hv
    simp only [Option.some.injEq, Prod.mk.injEq] at hs
    obtain ⟨rfl, rfl⟩ := hs
    rw [fResults_abs hv]
  · simp at hs
theorem fsum_abs {g : List Value → FH → Option (Value × FH)} {g' : List Value → AH → Option (Value × AH)} (hg : ∀ args h v h', g args h = some (v, h') → g' args h.abs = some (v, h'.abs) ∧ h.next ≤ h'.next) {args : List Value} {v : Value}
    (hs : g args h = some (v, h')) : grown h.abs (g' args h.abs) = some (v, h'.abs) := by
  obtain ⟨h1, h2⟩ := hg _ _ _ _ hs
  rw [h1]
  simp only [grown]
  have : Nat.ble h.abs.next h'.abs.next = true := Nat.ble_eq_true_of_le h2
  rw [this]
theorem fcallF_abs (B : Both F K) (S : FSim fr r) {f : FuncId} {args : List Value} {v : Value} (hs : fcallF P F fr f args h = some (v, h')) : callF P K r f args h.abs = some (v, h'.abs) := by
  unfold fcallF at hs
  unfold callF
  split at hs
  · rename_i g hg
    obtain ⟨g', h1, h2⟩ := B.sum f g hg
    rw [h1]
    exact fsum_abs h2 hs
  · simp at hs
  · rename_i hn
    rw [B.no f hn]
    exact fbodyF_abs S hs
theorem fcallX_abs (B : Both F K) (S : FSim fr r) {f : FuncId} {args : List Value} {v : Value} (hs : fcallX P F fr f args h = some (v, h')) : callX P K r f args h.abs = some (v, h'.abs) := by
  unfold fcallX at hs
  unfold callX
  split at hs
  · rename_i g hg
    obtain ⟨g', h1, h2⟩ := B.ext f g hg
    rw [h1]
    simp only
    split at hs
    rotate_left
    · simp at hs
    rename_i v0 hv
    simp only [Option.some.injEq, Prod.mk.injEq] at hs
    obtain ⟨rfl, rfl⟩ := hs
    rw [h2 _ _ _ hv]
    simp only [grown]
    have : Nat.ble h.abs.next h.abs.next = true := Nat.ble_eq_true_of_le (Nat.le_refl _)
    rw [this]
  · rename_i g hg
    obtain ⟨g', h1, h2⟩ := B.sum f g hg
    rw [h1]
    simp only
    unfold callF
    rw [h1]
    exact fsum_abs h2 hs
  · rename_i hn
    rw [B.no f hn]
    simp only
    unfold callF
    rw [B.no f hn]
    exact fbodyF_abs S hs
theorem loop_abs {l : Nat} {L : ALoop} (hg : h.get l = some (.other (.loop L))) : h.abs.get l = some (.loop L) := by
  rw [FH.abs_get, hg]
  rfl
theorem fyieldF_abs (S : FSim fr r) {l : Nat} {args : List Value} {v : Value} (hs : fyieldF fr l args h = some (v, h')) : yieldF r l args h.abs = some (v, h'.abs) := by
  unfold fyieldF at hs
  unfold yieldF
  split at hs
  rotate_left
  · simp at hs
  rename_i L hg
  rw [loop_abs hg]
  simp only
  split at hs
  rotate_left
  · simp at hs
  rename_i hlen
  rw [if_pos hlen]
  split at hs
  rotate_left
  · simp at hs
  rename_i e2 h2 hr1
  rw [S _ _ _ _ _ _ _ hr1]
  simp only
  split at hs
  rotate_left
  · simp at hs
  rename_i L2 hg2
  rw [loop_abs hg2]
  simp only
  split at hs
  rotate_left
  · simp at hs
  rename_i hst
  rw [if_pos hst]
  split at hs
  rotate_left
  · simp at hs
  rename_i x e4 h4 hr2
  have := S _ _ _ _ _ _ _ hr2
  rw [FH.abs_set] at this
  simp only [FObj.abs] at this
  rw [this]
  simp only
  split at hs
  rotate_left
  · simp at hs
  rename_i L4 hg4
  rw [loop_abs hg4]
  simp only
  split at hs <;>
  · simp only [Option.some.injEq, Prod.mk.injEq] at hs
    obtain ⟨rfl, rfl⟩ := hs
    rw [FH.abs_set]
    rfl
theorem finvokeF_abs (B : Both F K) (S : FSim fr r) {f : Value} {args : List Value} {v : Value} (hs : finvokeF P F fr f args h = some (v, h')) : invokeF P K r f args h.abs = some (v, h'.abs) := by
  unfold finvokeF at hs
  unfold invokeF
  split at hs
  · exact fcallX_abs B S hs
  · exact fyieldF_abs S hs
  · simp at hs
theorem frunOp_abs (B : Both F K) (S : FSim fr r) {o : Oper} {e : Env} {v : Value} (hs : frunOp P F fr o e h = some (v, h')) : runOp P K r o e h.abs = some (v, h'.abs) := by
  unfold frunOp at hs
  unfold runOp
  split at hs
  · rename_i hop
    rw [hop]
    exact finvokeF_abs B S hs
  · rename_i hne
    split
    · rename_i hop
      exact absurd hop (hne _ _ _)
    · exact fOp_abs hs
theorem frunOps_abs (B : Both F K) (S : FSim fr r) {ops : Array Oper} : ∀ {os : List Oper} {e e' : Env} {h h' : FH}, frunOps P F fr ops os e h = some (e', h') → runOps P K r [] ops os e h.abs = some (e', h'.abs)
  | [], e, e', h, h', hs => by
    simp only [frunOps, Option.some.injEq, Prod.mk.injEq] at hs
    obtain ⟨rfl, rfl⟩ := hs
    rfl
  | o :: os, e, e', h, h', hs => by
    unfold frunOps at hs
    unfold runOps
    split at hs
    · rename_i hw
      rw [hw]
      simp only
      split at hs
      rotate_left
      · simp at hs
      rename_i v h1 hr
      rw [preKill_none, frunOp_abs B S hr]
      exact frunOps_abs B S hs
    · rename_i hw
      rw [hw]
      exact frunOps_abs B S hs
    · simp at hs
theorem frunJ_abs (B : Both F K) (S : FSim fr r) {ops : Array Oper} : ∀ {os : List Nat} {e e' : Env} {h h' : FH}, frunJ P F fr ops os e h = some (e', h') → ∃ l, runL P K r ops os e h.abs = some l ∧ l.getLast? = some (e', h'.abs)
  | [], e, e', h, h', hs => by
    simp only [frunJ, Option.some.injEq, Prod.mk.injEq] at hs
    obtain ⟨rfl, rfl⟩ := hs
    exact ⟨_, rfl, rfl⟩
  | j :: js, e, e', h, h', hs => by
    unfold frunJ at hs
    unfold runL
    split at hs
    rotate_left
    · simp at hs
    rename_i o ho
    rw [ho]
    simp only
    split at hs
    · rename_i hw
      rw [hw]
      simp only
      split at hs
      rotate_left
      · simp at hs
      rename_i v h1 hr
      obtain ⟨l, h2, h3⟩ := frunJ_abs B S hs
      rw [frunOp_abs B S hr]
      simp only [h2]
      exact ⟨_, rfl, by simp [List.getLast?_cons, h3]⟩
    · rename_i hw
      rw [hw]
      simp only
      obtain ⟨l, h2, h3⟩ := frunJ_abs B S hs
      simp only [h2]
      exact ⟨_, rfl, by simp [List.getLast?_cons, h3]⟩
    · simp at hs
theorem frunL_abs (B : Both F K) (S : FSim fr r) {ops : Array Oper} : ∀ {os : List Nat} {e : Env} {h : FH} {l : List (Env × FH)}, frunL P F fr ops os e h = some l → runL P K r ops os e h.abs = some (l.map fun p => (p.1, p.2.abs))
  | [], e, h, l, hs => by
    simp only [frunL, Option.some.injEq] at hs
    subst hs
    rfl
  | j :: js, e, h, l, hs => by
    unfold frunL at hs
    unfold runL
    split at hs
    rotate_left
    · simp at hs
    rename_i o ho
    rw [ho]
    simp only
    split at hs
    · rename_i hw
      rw [hw]
      simp only
      split at hs
      rotate_left
      · simp at hs
      rename_i v h1 hr
      split at hs
      rotate_left
      · simp at hs
      rename_i l1 hl
      simp only [Option.some.injEq] at hs
      subst hs
      rw [frunOp_abs B S hr]
      simp only [frunL_abs B S hl, List.map_cons]
    · rename_i hw
      rw [hw]
      simp only
      split at hs
      rotate_left
      · simp at hs
      rename_i l1 hl
      simp only [Option.some.injEq] at hs
      subst hs
      simp only [frunL_abs B S hl, List.map_cons]
    · simp at hs
theorem frereadAt_abs {ops : Array Oper} {ord : List Nat} {l : List (Env × FH)} {p q : Nat} (hs : frereadAt P ops ord l p q = true) : rereadAt P ops ord (l.map fun p => (p.1, p.2.abs)) p q = true := by
  unfold frereadAt at hs
  split at hs
  rotate_left
  · simp at hs
  rename_i o e h0 e1 h1 e2 h2 g1 g2 g3 g4
  unfold rereadAt
  simp only [g1, List.getElem?_map, g2, g3, g4, Option.map_some]
  split at hs
  · rename_i hw
    rw [hw]
  · rename_i hw
    rw [hw]
    simp only
    split at hs
    rotate_left
    · simp at hs
    rename_i d v h3 hd hv
    simp only [hd, fOp_abs hv]
    exact hs
  · simp at hs
theorem fexDraw_abs (B : Both F K) (S : FSim fr r) {ops : Array Oper} {e e' : Env} (hs : fexDraw P F fr ops e h = some (e', h')) : exDraw P K r ops e h.abs = some (e', h'.abs) := by
  unfold fexDraw at hs
  unfold exDraw
  split at hs
  rotate_left
  · simp at hs
  rename_i ord ps hp
  rw [hp]
  simp only
  split at hs
  · obtain ⟨l, h2, h3⟩ := frunJ_abs B S hs
    rw [h2]
    simp only [List.all_nil]
    exact h3
  · rename_i p ps
    split at hs
    rotate_left
    · simp at hs
    rename_i l hl
    rw [frunL_abs B S hl]
    simp only
    split at hs
    rotate_left
    · simp at hs
    rename_i hall
    have : ((p :: ps).all fun p => rereadAt P ops ord (l.map fun p => (p.1, p.2.abs)) p.1 p.2 && rereadAt P ops ord (l.map fun p => (p.1, p.2.abs)) p.1 (p.2 + 1)) = true := by
      rw [List.all_eq_true] at hall ⊢
      intro x hx
      have := hall x hx
      rw [Bool.and_eq_true] at this ⊢
      exact ⟨frereadAt_abs this.1, frereadAt_abs this.2⟩
    rw [this]
    simp only
    rw [List.getLast?_map, hs]
    rfl
theorem frangeCall_abs (B : Both F K) (S : FSim fr r) {f : Value} {l : Nat} {v : Value} (hs : frangeCall P F fr f l h = some (v, h')) : rangeCall P K r f l h.abs = some (v, h'.abs) := by
  unfold frangeCall at hs
  unfold rangeCall
  split at hs
  · exact fcallF_abs B S hs
  · simp at hs
theorem fexRange_abs (B : Both F K) (S : FSim fr r) {f : Operand} {ps : List Tmp} {as bd : Code} {e e' : Env} {x : AX} (hs : fexRange P F fr f ps as bd e h = some (x, e', h')) : exRange P K r [] f ps as bd e h.abs = some (x, e', h'.abs) := by
  unfold fexRange at hs
  unfold exRange
  split at hs
  rotate_left
  · simp at hs
  rename_i v0 h2 hc
  have := frangeCall_abs B S hc
  rw [FH.abs_alloc] at this
  simp only [FObj.abs] at this
  rw [FH.abs_next, this]
  simp only
  split at hs
  rotate_left
  · simp at hs
  rename_i L hg
  rw [loop_abs hg]
  simp only
  split at hs
  · simp at hs
  · rename_i hne
    split at hs
    · rename_i hpe
      simp only [Option.some.injEq, Prod.mk.injEq] at hs
      obtain ⟨rfl, rfl, rfl⟩ := hs
      simp only [hpe, FH.abs_del]
    · rename_i hpe
      simp only [Option.some.injEq, Prod.mk.injEq] at hs
      obtain ⟨rfl, rfl, rfl⟩ := hs
      simp only [hpe, FH.abs_del]
    · rename_i hpe
      simp only [Option.some.injEq, Prod.mk.injEq] at hs
      obtain ⟨rfl, rfl, rfl⟩ := hs
      simp only [hpe, FH.abs_del]
    · simp at hs
theorem faroundOk_abs {rd : Option Nat} (hs : faroundOk rd h = true) : aroundOk rd h.abs = true := by
  unfold faroundOk at hs
  unfold aroundOk
  split at hs
  · rfl
  · split at hs
    · rename_i hg
      simp only [loop_abs hg]
    · simp at hs
theorem fexStep_abs (B : Both F K) (S : FSim fr r) : FSim (fexStep P F fr) (exStep P K r) := by
  intro rd c e h x e' h' hs
  unfold fexStep at hs
  unfold exStep
  split at hs
  · simp only [Option.some.injEq, Prod.mk.injEq] at hs
    obtain ⟨rfl, rfl, rfl⟩ := hs
    rfl
  · simp only [Option.some.injEq, Prod.mk.injEq] at hs
    obtain ⟨rfl, rfl, rfl⟩ := hs
    rfl
  · simp only
    split at hs
    · split at hs
      rotate_left
      · simp at hs
      rename_i hr
      simp only [Option.some.injEq, Prod.mk.injEq] at hs
      obtain ⟨rfl, rfl, rfl⟩ := hs
      simp only [frunOps_abs B S hr]
    · split at hs
      rotate_left
      · simp at hs
      rename_i hr
      simp only [Option.some.injEq, Prod.mk.injEq] at hs
      obtain ⟨rfl, rfl, rfl⟩ := hs
      simp only [fexDraw_abs B S hr]
  · simp only
    split at hs
    · rename_i hr
      rw [S _ _ _ _ _ _ _ hr]
      exact S _ _ _ _ _ _ _ hs
    · rename_i hne
      rw [S _ _ _ _ _ _ _ hs]
      split
      · rename_i hq
        simp only [Option.some.injEq, Prod.mk.injEq] at hq
        obtain ⟨rfl, rfl, rfl⟩ := hq
        exact absurd hs (hne _ _)
      · rfl
  · simp only
    split at hs
    rotate_left
    · simp at hs
    rename_i t hev
    rw [hev]
    cases t
    · exact S _ _ _ _ _ _ _ hs
    · exact S _ _ _ _ _ _ _ hs
  · simp only
    split at hs
    · rename_i id' e1 h1 hr
      rw [S _ _ _ _ _ _ _ hr]
      simp only
      cases hb : Nat.beq id' _ <;> rw [hb] at hs <;> simp only [cond_true, cond_false, Option.some.injEq, Prod.mk.injEq] at hs ⊢ <;>
      · obtain ⟨rfl, rfl, rfl⟩ := hs
        exact ⟨rfl, rfl, rfl⟩
    · rename_i hne
      rw [S _ _ _ _ _ _ _ hs]
      split
      · rename_i hq
        simp only [Option.some.injEq, Prod.mk.injEq] at hq
        obtain ⟨rfl, rfl, rfl⟩ := hq
        exact absurd hs (hne _ _ _)
      · rfl
  · simp only
    split at hs
    · rename_i hr
      rw [S _ _ _ _ _ _ _ hr]
      exact S _ _ _ _ _ _ _ hs
    · rename_i hne
      rw [S _ _ _ _ _ _ _ hs]
      split
      · rename_i hq
        simp only [Option.some.injEq, Prod.mk.injEq] at hq
        obtain ⟨rfl, rfl, rfl⟩ := hq
        exact absurd hs (hne _ _)
      · rfl
  · exact S _ _ _ _ _ _ _ hs
  · simp only [Option.some.injEq, Prod.mk.injEq] at hs
    obtain ⟨rfl, rfl, rfl⟩ := hs
    rfl
  · simp only [Option.some.injEq, Prod.mk.injEq] at hs
    obtain ⟨rfl, rfl, rfl⟩ := hs
    rfl
  · simp only
    split at hs
    · simp at hs
    · rename_i ha
      rw [faroundOk_abs ha]
      exact fexRange_abs B S hs
  · simp at hs
  · simp at hs
theorem fex_abs (B : Both F K) : ∀ n, FSim (fex P F n) (ex P K n)
  | 0 => fun _ _ _ _ _ _ _ hs => by simp [fex] at hs
  | n + 1 => fexStep_abs B (fex_abs B n)
theorem isTrueF_abs (B : Both F K) {n : Nat} {f : FuncId} (hs : isTrueF (fcallF P F (fex P F n) f [] ⟨.nil, 0⟩) = true) : isTrue (callF P K (ex P K n) f [] ⟨.nil, 0⟩) = true := by
  unfold isTrueF at hs
  split at hs
  · rename_i h1 hc
    have := fcallF_abs B (fex_abs B n) hc
    have he : FH.abs ⟨.nil, 0⟩ = ⟨.nil, 0⟩ := rfl
    rw [he] at this
    rw [this]
    rfl
  · simp at hs
end
/-! ## One function is told: the search of a byte -/
def pIndexByte : List Value → Option Value
  | [.string s, .int .u8 c] => some (.int .i64 (findB s c))
  | _ => none
def fByte (n : Nat) : Fs := fun f => cond (Nat.beq f n) (some (.ext pIndexByte)) none
theorem both_byte (n : Nat) : Both (fByte n) (xByte n) where
  no := fun f hf => by
    unfold fByte at hf
    unfold xByte
    cases hb : Nat.beq f n with
    | true => rw [hb] at hf; simp at hf
    | false => rfl
  ext := fun f g hf => by
    unfold fByte at hf
    unfold xByte
    cases hb : Nat.beq f n with
    | false => rw [hb] at hf; simp at hf
    | true =>
      rw [hb] at hf
      simp only [cond_true, Option.some.injEq, FF.ext.injEq] at hf
      subst hf
      refine ⟨xIndexByte, rfl, fun args h v hv => ?_⟩
      unfold pIndexByte at hv
      split at hv
      · simp only [Option.some.injEq] at hv
        subst hv
        rfl
      · simp at hv
  sum := fun f g hf => by
    unfold fByte at hf
    cases hb : Nat.beq f n <;> rw [hb] at hf <;> simp at hf
/-- Nothing is told. -/
def xNone : Xs := fun _ => none
def fNone : Fs := fun _ => none
theorem both_none : Both fNone xNone where
  no := fun _ _ => rfl
  ext := fun _ _ hf => by simp [fNone] at hf
  sum := fun _ _ hf => by simp [fNone] at hf
theorem xNone_good {P : Program} : GoodX P xNone where
  ext := fun _ _ hk => by simp [xNone] at hk
  body := fun _ _ hk => by simp [xNone] at hk
  sum := fun _ _ hk => by simp [xNone] at hk
/-- One more is told to both. -/
def xAdd (K : Xs) (fa : FuncId) (x : XF) : Xs := fun f => cond (Nat.beq f fa) (some x) (K f)
def fAdd (F : Fs) (fa : FuncId) (x : FF) : Fs := fun f => cond (Nat.beq f fa) (some x) (F f)
theorem xAdd_at {K : Xs} {fa : FuncId} {x : XF} : xAdd K fa x fa = some x := by
  unfold xAdd
  rw [Nat.beq_refl]
  rfl
theorem xAdd_ne {K : Xs} {f fa : FuncId} {x : XF} (hn : f ≠ fa) : xAdd K fa x f = K f := by
  unfold xAdd
  rw [beq_f hn]
  rfl
theorem fAdd_at {F : Fs} {fa : FuncId} {x : FF} : fAdd F fa x fa = some x := by
  unfold fAdd
  rw [Nat.beq_refl]
  rfl
theorem fAdd_ne {F : Fs} {f fa : FuncId} {x : FF} (hn : f ≠ fa) : fAdd F fa x f = F f := by
  unfold fAdd
  rw [beq_f hn]
  rfl
theorem both_add {F : Fs} {K : Xs} (B : Both F K) {fa : FuncId} {g : List Value → FH → Option (Value × FH)} {g' : List Value → AH → Option (Value × AH)}
    (hg : ∀ args h v h', g args h = some (v, h') → g' args h.abs = some (v, h'.abs) ∧ h.next ≤ h'.next) : Both (fAdd F fa (.sum g)) (xAdd K fa (.sum g')) where
  no := fun f hf => by
    by_cases h : f = fa
    · subst h; rw [fAdd_at] at hf; simp at hf
    · rw [fAdd_ne h] at hf; rw [xAdd_ne h]; exact B.no f hf
  ext := fun f x hf => by
    by_cases h : f = fa
    · subst h; rw [fAdd_at] at hf; simp at hf
    · rw [fAdd_ne h] at hf; rw [xAdd_ne h]; exact B.ext f x hf
  sum := fun f x hf => by
    by_cases h : f = fa
    · subst h
      rw [fAdd_at] at hf
      simp only [Option.some.injEq, FF.sum.injEq] at hf
      subst hf
      exact ⟨g', xAdd_at, hg⟩
    · rw [fAdd_ne h] at hf; rw [xAdd_ne h]; exact B.sum f x hf
end Go.Am
