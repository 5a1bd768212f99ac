/-
  WAYS INTO TREES, made ready ahead: for the kernel.
-/
import Derived.Test.YtkggibodlljkcaiGreatAm3m
set_option linter.unusedVariables false
namespace Go.Am
/-- A way into a tree. -/
inductive Pt where
  | z
  | l (p : Pt)
  | r (p : Pt)
def ptF : Nat → Nat → Pt
  | 0, _ => .z
  | f + 1, n => cond (Nat.beq n 0) .z (cond (Nat.beq (Nat.mod n 2) 1) (.l (ptF f (Nat.div n 2))) (.r (ptF f (Nat.sub (Nat.div n 2) 1))))
theorem ptF_succ (f n : Nat) : ptF (f + 1) n = cond (Nat.beq n 0) .z (cond (Nat.beq (n % 2) 1) (.l (ptF f (n / 2))) (.r (ptF f (n / 2 - 1)))) := rfl
def pt (n : Nat) : Pt := ptF (n + 1) n
namespace Tr
variable {α : Type}
noncomputable def getP (p : Pt) : Tr α → Option α :=
  Pt.rec (motive := fun _ => Tr α → Option α) (fun t => Tr.rec (motive := fun _ => Option α) none (fun v _ _ _ _ => v) t)
    (fun _ ih t => Tr.rec (motive := fun _ => Option α) none (fun _ l _ _ _ => ih l) t) (fun _ ih t => Tr.rec (motive := fun _ => Option α) none (fun _ _ r _ _ => ih r) t) p
noncomputable def setP (v : Option α) (p : Pt) : Tr α → Tr α :=
  Pt.rec (motive := fun _ => Tr α → Tr α) (fun t => Tr.rec (motive := fun _ => Tr α) (.node v .nil .nil) (fun _ l r _ _ => .node v l r) t)
    (fun _ ih t => Tr.rec (motive := fun _ => Tr α) (.node none (ih .nil) .nil) (fun u l r _ _ => .node u (ih l) r) t)
    (fun _ ih t => Tr.rec (motive := fun _ => Tr α) (.node none .nil (ih .nil)) (fun u l r _ _ => .node u l (ih r)) t) p
theorem getP_eq : ∀ (f : Nat) (t : Tr α) (n : Nat), n < f → getP (ptF f n) t = t.get n := by
  intro f
  induction f with
  | zero => intro t n h; omega
  | succ f ih =>
    intro t n h
    rw [ptF_succ]
    by_cases h0 : n = 0
    · subst h0
      cases t <;> rfl
    · rw [beq_f h0, cond_false]
      by_cases h1 : n % 2 = 1
      · rw [beq_t h1, cond_true]
        cases t with
        | nil => rfl
        | node v l r =>
          simp only [get, beq_f h0, beq_t h1, cond_false, cond_true]
          exact ih l (n / 2) (by omega)
      · rw [beq_f h1, cond_false]
        cases t with
        | nil => rfl
        | node v l r =>
          simp only [get, beq_f h0, beq_f h1, cond_false]
          exact ih r (n / 2 - 1) (by omega)
theorem getP_pt (t : Tr α) (n : Nat) : getP (pt n) t = t.get n := getP_eq (n + 1) t n (Nat.lt_succ_self n)
theorem setP_eq (v : Option α) : ∀ (f : Nat) (t : Tr α) (n : Nat), n < f → setP v (ptF f n) t = setF v f t n := by
  intro f
  induction f with
  | zero => intro t n h; omega
  | succ f ih =>
    intro t n h
    rw [ptF_succ]
    by_cases h0 : n = 0
    · subst h0
      cases t <;> rfl
    · rw [beq_f h0, cond_false]
      by_cases h1 : n % 2 = 1
      · rw [beq_t h1, cond_true]
        cases t with
        | nil =>
          simp only [setF, beq_f h0, beq_t h1, cond_false, cond_true]
          rw [← ih .nil (n / 2) (by omega)]
          rfl
        | node u l r =>
          simp only [setF, beq_f h0, beq_t h1, cond_false, cond_true]
          rw [← ih l (n / 2) (by omega)]
          rfl
      · rw [beq_f h1, cond_false]
        cases t with
        | nil =>
          simp only [setF, beq_f h0, beq_f h1, cond_false]
          rw [← ih .nil (n / 2 - 1) (by omega)]
          rfl
        | node u l r =>
          simp only [setF, beq_f h0, beq_f h1, cond_false]
          rw [← ih r (n / 2 - 1) (by omega)]
          rfl
theorem setP_none (t : Tr α) (n : Nat) : setP none (pt n) t = t.del n := setP_eq none (n + 1) t n (Nat.lt_succ_self n)
theorem setP_pt (t : Tr α) (n : Nat) (v : α) : setP (some v) (pt n) t = t.set n v := setP_eq (some v) (n + 1) t n (Nat.lt_succ_self n)
end Tr
/-- A number is made ready ahead. -/
noncomputable def forceN {β : Type} (n : Nat) (f : Nat → β) : β := Nat.rec (motive := fun _ => β) (f 0) (fun m _ => f (Nat.succ m)) n
theorem forceN_eq {β : Type} (n : Nat) (f : Nat → β) : forceN n f = f n := by cases n <;> rfl
end Go.Am
