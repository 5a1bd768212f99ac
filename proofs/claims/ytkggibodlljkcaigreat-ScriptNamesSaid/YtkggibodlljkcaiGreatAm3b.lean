/-
  Names only grow along the evaluator; what the evaluator has at less fuel it has at more.
-/
import Derived.Test.YtkggibodlljkcaiGreatAm3a
set_option linter.unusedVariables false
set_option linter.unusedSimpArgs false
namespace Go.Am
variable {P : Program} {K : Xs} {φ φ' : Fi} {h h' : AH} {w w' : World}

/-- Names only grow along the evaluator. -/
def MonoEx (r : Ex) : Prop := ∀ rd ks c e h x e' h', r rd ks c e h = some (x, e', h') → h.next ≤ h'.next
section
variable {r : Ex} (M : MonoEx r)
include M
theorem bodyF_next {f : FuncId} {args : List Value} {v : Value} (hs : bodyF P r f args h = some (v, h')) : h.next ≤ h'.next := by
  unfold bodyF at hs
  split at hs
  rotate_left
  · simp at hs
  split at hs
  rotate_left
  · simp at hs
  split at hs
  · rename_i hr
    split at hs
    · simp only [Option.some.injEq, Prod.mk.injEq] at hs
      obtain ⟨_, rfl⟩ := hs
      exact M _ _ _ _ _ _ _ _ hr
    · simp at hs
  · rename_i hr
    split at hs
    · simp only [Option.some.injEq, Prod.mk.injEq] at hs
      obtain ⟨_, rfl⟩ := hs
      exact M _ _ _ _ _ _ _ _ hr
    · simp at hs
  · simp at hs
omit M in
theorem grown_next {y : Option (Value × AH)} {v : Value} (hs : grown h y = some (v, h')) : h.next ≤ h'.next ∧ y = some (v, h') := by
  unfold grown at hs
  split at hs
  · split at hs
    · rename_i hb
      simp only [Option.some.injEq, Prod.mk.injEq] at hs
      obtain ⟨rfl, rfl⟩ := hs
      exact ⟨Nat.le_of_ble_eq_true hb, rfl⟩
    · simp at hs
  · simp at hs
theorem callF_next {f : FuncId} {args : List Value} {v : Value} (hs : callF P K r f args h = some (v, h')) : h.next ≤ h'.next := by
  unfold callF at hs
  split at hs
  · exact (grown_next hs).1
  · simp at hs
  · exact bodyF_next M hs
theorem callX_next {f : FuncId} {args : List Value} {v : Value} (hs : callX P K r f args h = some (v, h')) : h.next ≤ h'.next := by
  unfold callX at hs
  split at hs
  · exact (grown_next hs).1
  · exact callF_next M hs
theorem yieldF_next {l : Nat} {args : List Value} {v : Value} (hs : yieldF r l args h = some (v, h')) : h.next ≤ h'.next := by
  unfold yieldF at hs
  split at hs
  rotate_left
  · simp at hs
  split at hs
  rotate_left
  · simp at hs
  split at hs
  rotate_left
  · simp at hs
  rename_i h1
  split at hs
  rotate_left
  · simp at hs
  split at hs
  rotate_left
  · simp at hs
  split at hs
  rotate_left
  · simp at hs
  rename_i h2
  split at hs
  rotate_left
  · simp at hs
  have a1 := M _ _ _ _ _ _ _ _ h1
  have a2 := M _ _ _ _ _ _ _ _ h2
  simp only [AH.next_set] at a2
  split at hs <;>
  · simp only [Option.some.injEq, Prod.mk.injEq] at hs
    obtain ⟨_, rfl⟩ := hs
    exact Nat.le_trans a1 a2
theorem invokeF_next {f : Value} {args : List Value} {v : Value} (hs : invokeF P K r f args h = some (v, h')) : h.next ≤ h'.next := by
  unfold invokeF at hs
  split at hs
  · exact callX_next M hs
  · exact yieldF_next M hs
  · simp at hs
theorem runOp_next {o : Oper} {e : Env} {v : Value} (hs : runOp P K r o e h = some (v, h')) : h.next ≤ h'.next := by
  unfold runOp at hs
  split at hs
  · exact invokeF_next M hs
  · exact op_next hs
theorem runOps_next {ks : List Tmp} {ops : Array Oper} : ∀ {os : List Oper} {e e' : Env} {h h' : AH}, runOps P K r ks ops os e h = some (e', h') → h.next ≤ h'.next
  | [], e, e', h, h', hs => by
    simp only [runOps, Option.some.injEq, Prod.mk.injEq] at hs
    obtain ⟨_, rfl⟩ := hs
    exact Nat.le_refl _
  | o :: os, e, e', h, h', hs => by
    unfold runOps at hs
    split at hs
    · split at hs
      · rename_i hr
        have a1 := runOp_next M hr
        rw [preKill_next] at a1
        exact Nat.le_trans a1 (runOps_next hs)
      · simp at hs
    · exact runOps_next hs
    · simp at hs
theorem runL_next {ops : Array Oper} : ∀ {os : List Nat} {e : Env} {h : AH} {l : List (Env × AH)}, runL P K r ops os e h = some l → ∀ y, l.getLast? = some y → h.next ≤ y.2.next
  | [], e, h, l, hr, y, hy => by
    simp only [runL, Option.some.injEq] at hr
    subst hr
    simp at hy
    subst hy
    exact Nat.le_refl _
  | j :: js, e, h, l, hr, y, hy => by
    have ne : ∀ {os : List Nat} {e : Env} {h : AH} {l : List (Env × AH)}, runL P K r ops os e h = some l → l ≠ [] := by
      intro os e h l hq
      cases os with
      | nil => simp [runL] at hq; rw [← hq]; simp
      | cons a os =>
        unfold runL at hq
        repeat' split at hq
        all_goals first | (simp at hq; done) | (simp only [Option.some.injEq] at hq; subst hq; simp)
    unfold runL at hr
    split at hr
    rotate_left
    · simp at hr
    split at hr
    · split at hr
      · rename_i v h1 hr1
        have n1 := runOp_next M hr1
        split at hr
        · rename_i l2 hl2
          simp only [Option.some.injEq] at hr
          subst hr
          rw [List.getLast?_cons_of_ne_nil (ne hl2)] at hy
          exact Nat.le_trans n1 (runL_next hl2 y hy)
        · simp at hr
      · simp at hr
    · split at hr
      · rename_i l2 hl2
        simp only [Option.some.injEq] at hr
        subst hr
        rw [List.getLast?_cons_of_ne_nil (ne hl2)] at hy
        exact runL_next hl2 y hy
      · simp at hr
    · simp at hr
theorem exDraw_next {ops : Array Oper} {e e' : Env} (hs : exDraw P K r ops e h = some (e', h')) : h.next ≤ h'.next := by
  unfold exDraw at hs
  split at hs
  rotate_left
  · simp at hs
  split at hs
  rotate_left
  · simp at hs
  rename_i hl
  split at hs
  rotate_left
  · simp at hs
  exact runL_next M hl _ hs
theorem rangeCall_next {f : Value} {l : Nat} {v : Value} (hs : rangeCall P K r f l h = some (v, h')) : h.next ≤ h'.next := by
  unfold rangeCall at hs
  split at hs
  · exact callF_next M hs
  · simp at hs
theorem exRange_next {ks : List Tmp} {f : Operand} {ps : List Tmp} {as bd : Code} {e e' : Env} {x : AX} (hs : exRange P K r ks f ps as bd e h = some (x, e', h')) : h.next ≤ h'.next := by
  unfold exRange at hs
  split at hs
  rotate_left
  · simp at hs
  rename_i hi
  have a1 := rangeCall_next M hi
  simp only [AH.next_alloc] at a1
  split at hs
  rotate_left
  · simp at hs
  split at hs
  · simp at hs
  split at hs
  all_goals first | (simp at hs; done) | skip
  all_goals
    (simp only [Option.some.injEq, Prod.mk.injEq] at hs
     obtain ⟨_, _, rfl⟩ := hs
     simp only [AH.next_del]
     omega)
theorem exStep_next : MonoEx (exStep P K r) := by
  intro rd ks c e h x e' h' hs
  unfold exStep at hs
  split at hs
  · simp only [Option.some.injEq, Prod.mk.injEq] at hs
    obtain ⟨_, _, rfl⟩ := hs
    exact Nat.le_refl _
  · simp only [Option.some.injEq, Prod.mk.injEq] at hs
    obtain ⟨_, _, rfl⟩ := hs
    exact Nat.le_refl _
  · split at hs
    · split at hs
      · rename_i hr
        simp only [Option.some.injEq, Prod.mk.injEq] at hs
        obtain ⟨_, _, rfl⟩ := hs
        exact runOps_next M hr
      · simp at hs
    · split at hs
      · rename_i hr
        simp only [Option.some.injEq, Prod.mk.injEq] at hs
        obtain ⟨_, _, rfl⟩ := hs
        exact exDraw_next M hr
      · simp at hs
  · split at hs
    · rename_i hr
      exact Nat.le_trans (M _ _ _ _ _ _ _ _ hr) (M _ _ _ _ _ _ _ _ hs)
    · exact M _ _ _ _ _ _ _ _ hs
  · split at hs
    · rename_i t _
      cases t
      · exact M _ _ _ _ _ _ _ _ hs
      · exact M _ _ _ _ _ _ _ _ hs
    · simp at hs
  · split at hs
    · rename_i id' _ _ hr
      have := M _ _ _ _ _ _ _ _ hr
      cases hb : Nat.beq id' _ <;> rw [hb] at hs <;>
      · simp only [cond_true, cond_false, Option.some.injEq, Prod.mk.injEq] at hs
        obtain ⟨_, _, rfl⟩ := hs
        exact this
    · exact M _ _ _ _ _ _ _ _ hs
  · split at hs
    · rename_i hr
      exact Nat.le_trans (M _ _ _ _ _ _ _ _ hr) (M _ _ _ _ _ _ _ _ hs)
    · exact M _ _ _ _ _ _ _ _ hs
  · exact M _ _ _ _ _ _ _ _ hs
  · simp only [Option.some.injEq, Prod.mk.injEq] at hs
    obtain ⟨_, _, rfl⟩ := hs
    exact Nat.le_refl _
  · simp only [Option.some.injEq, Prod.mk.injEq] at hs
    obtain ⟨_, _, rfl⟩ := hs
    exact Nat.le_refl _
  · split at hs
    · simp at hs
    · exact exRange_next M hs
  · simp at hs
  · simp at hs
end
theorem ex_next : ∀ n, MonoEx (ex P K n)
  | 0 => fun _ _ _ _ _ _ _ _ hs => by simp [ex] at hs
  | n + 1 => exStep_next (ex_next n)

/-! ## More fuel -/
def LeEx (r s : Ex) : Prop := ∀ rd ks c e h x, r rd ks c e h = some x → s rd ks c e h = some x
section
variable {r s : Ex} (L : LeEx r s)
include L
theorem bodyF_le {f : FuncId} {args : List Value} {x : Value × AH} (hs : bodyF P r f args h = some x) : bodyF P s f args h = some x := by
  unfold bodyF at hs ⊢
  split at hs
  rotate_left
  · simp at hs
  split at hs
  rotate_left
  · simp at hs
  split at hs
  · rename_i hr
    rw [L _ _ _ _ _ _ hr]
    exact hs
  · rename_i hr
    rw [L _ _ _ _ _ _ hr]
    exact hs
  · simp at hs
theorem callF_le {f : FuncId} {args : List Value} {x : Value × AH} (hs : callF P K r f args h = some x) : callF P K s f args h = some x := by
  unfold callF at hs ⊢
  split at hs
  · exact hs
  · exact hs
  · exact bodyF_le L hs
theorem callX_le {f : FuncId} {args : List Value} {x : Value × AH} (hs : callX P K r f args h = some x) : callX P K s f args h = some x := by
  unfold callX at hs ⊢
  split at hs
  · exact hs
  · exact callF_le L hs
theorem yieldF_le {l : Nat} {args : List Value} {x : Value × AH} (hs : yieldF r l args h = some x) : yieldF s l args h = some x := by
  unfold yieldF at hs ⊢
  cases hl : h.get l with
  | none => rw [hl] at hs; simp at hs
  | some ob =>
    rw [hl] at hs
    cases ob with
    | loop L0 =>
      simp only at hs ⊢
      by_cases hlen : args.length = L0.params.length
      · rw [if_pos hlen] at hs ⊢
        cases hr1 : r (some l) [] L0.assign (putAll L0.env L0.params args) h with
        | none => rw [hr1] at hs; simp at hs
        | some y =>
          obtain ⟨x1, e2, h2⟩ := y
          rw [L _ _ _ _ _ _ hr1]
          rw [hr1] at hs
          cases x1 with
          | normal =>
            simp only at hs ⊢
            cases hl2 : h2.get l with
            | none => rw [hl2] at hs; simp at hs
            | some ob2 =>
              rw [hl2] at hs
              cases ob2 with
              | loop L2 =>
                simp only at hs ⊢
                by_cases hst : L2.state = .ready
                · rw [if_pos hst] at hs ⊢
                  cases hr2 : r (some l) [] L0.body e2 (h2.set l (.loop { L2 with state := .busy })) with
                  | none => rw [hr2] at hs; simp at hs
                  | some z =>
                    rw [L _ _ _ _ _ _ hr2]
                    rw [hr2] at hs
                    exact hs
                · rw [if_neg hst] at hs; simp at hs
              | _ => simp at hs
          | _ => simp at hs
      · rw [if_neg hlen] at hs; simp at hs
    | _ => simp at hs
theorem invokeF_le {f : Value} {args : List Value} {x : Value × AH} (hs : invokeF P K r f args h = some x) : invokeF P K s f args h = some x := by
  unfold invokeF at hs ⊢
  split at hs
  · exact callX_le L hs
  · exact yieldF_le L hs
  · simp at hs
theorem runOp_le {o : Oper} {e : Env} {x : Value × AH} (hs : runOp P K r o e h = some x) : runOp P K s o e h = some x := by
  unfold runOp at hs ⊢
  split at hs
  · exact invokeF_le L hs
  · exact hs
theorem runOps_le {ks : List Tmp} {ops : Array Oper} : ∀ {os : List Oper} {e : Env} {h : AH} {x : Env × AH}, runOps P K r ks ops os e h = some x → runOps P K s ks ops os e h = some x
  | [], e, h, x, hs => by simpa [runOps] using hs
  | o :: os, e, h, x, hs => by
    unfold runOps at hs ⊢
    split at hs
    · split at hs
      · rename_i hr
        rw [runOp_le L hr]
        exact runOps_le hs
      · simp at hs
    · exact runOps_le hs
    · simp at hs
theorem runL_le {ops : Array Oper} : ∀ {os : List Nat} {e : Env} {h : AH} {x : List (Env × AH)}, runL P K r ops os e h = some x → runL P K s ops os e h = some x
  | [], e, h, x, hs => by simpa [runL] using hs
  | j :: js, e, h, x, hs => by
    unfold runL at hs ⊢
    split at hs
    rotate_left
    · simp at hs
    rename_i ho
    try rw [ho]
    try simp only
    split at hs
    · rename_i hw
      split at hs
      · rename_i v h1 hr1
        rw [runOp_le L hr1]
        split at hs
        · rename_i l2 hl2
          try rw [hw]
          simp only [runL_le hl2]
          exact hs
        · simp at hs
      · simp at hs
    · rename_i hw
      try rw [hw]
      split at hs
      · rename_i l2 hl2
        simp only [runL_le hl2]
        exact hs
      · simp at hs
    · simp at hs
theorem exDraw_le {ops : Array Oper} {e : Env} {y : Env × AH} (hd : exDraw P K r ops e h = some y) : exDraw P K s ops e h = some y := by
  unfold exDraw at hd ⊢
  split at hd
  rotate_left
  · simp at hd
  rename_i hp
  try rw [hp]
  try simp only
  split at hd
  rotate_left
  · simp at hd
  rename_i hr2
  rw [runL_le L hr2]
  exact hd
theorem rangeCall_le {f : Value} {l : Nat} {x : Value × AH} (hs : rangeCall P K r f l h = some x) : rangeCall P K s f l h = some x := by
  unfold rangeCall at hs ⊢
  split at hs
  · exact callF_le L hs
  · simp at hs
theorem exStep_le : LeEx (exStep P K r) (exStep P K s) := by
  intro rd ks c e h x hs
  unfold exStep at hs ⊢
  split at hs
  · exact hs
  · exact hs
  · split at hs
    · split at hs
      · rename_i hr
        rw [runOps_le L hr]
        exact hs
      · simp at hs
    · split at hs
      · rename_i hr
        rw [exDraw_le L hr]
        exact hs
      · simp at hs
  · split at hs
    · rename_i hr
      rw [L _ _ _ _ _ _ hr]
      exact L _ _ _ _ _ _ hs
    · rename_i hne
      rw [L _ _ _ _ _ _ hs]
      split
      · rename_i q
        simp only [Option.some.injEq] at q
        subst q
        exact absurd hs (hne _ _)
      · rfl
  · split at hs
    · rename_i t _
      cases t
      · exact L _ _ _ _ _ _ hs
      · exact L _ _ _ _ _ _ hs
    · simp at hs
  · split at hs
    · rename_i hr
      rw [L _ _ _ _ _ _ hr]
      exact hs
    · rename_i hne
      rw [L _ _ _ _ _ _ hs]
      split
      · rename_i q
        simp only [Option.some.injEq] at q
        subst q
        exact absurd hs (hne _ _ _)
      · rfl
  · split at hs
    · rename_i hr
      rw [L _ _ _ _ _ _ hr]
      exact L _ _ _ _ _ _ hs
    · rename_i hne
      rw [L _ _ _ _ _ _ hs]
      split
      · rename_i q
        simp only [Option.some.injEq] at q
        subst q
        exact absurd hs (hne _ _)
      · rfl
  · exact L _ _ _ _ _ _ hs
  · exact hs
  · exact hs
  · split at hs
    · simp at hs
    · unfold exRange at hs ⊢
      split at hs
      rotate_left
      · simp at hs
      rename_i hi
      rw [rangeCall_le L hi]
      exact hs
  · simp at hs
  · simp at hs
end
theorem ex_succ : ∀ n, LeEx (ex P K n) (ex P K (n + 1))
  | 0 => fun _ _ _ _ _ _ hs => by simp [ex] at hs
  | n + 1 => exStep_le (ex_succ n)
theorem ex_le {n m : Nat} (hnm : n ≤ m) : LeEx (ex P K n) (ex P K m) := by
  induction hnm with
  | refl => exact fun _ _ _ _ _ _ h => h
  | step _ ih => exact fun _ _ _ _ _ _ h => ex_succ _ _ _ _ _ _ _ (ih _ _ _ _ _ _ h)
end Go.Am
