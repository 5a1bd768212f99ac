/-
  THE SECTORS IN A STATE, for the machine of the kernel.
-/
import Derived.Test.YtkggibodlljkcaiGreatAm6c
import Derived.Test.YtkggibodlljkcaiGreatAm7c
set_option linter.unusedVariables false
set_option linter.unusedSimpArgs false
namespace Go.Am
/-- One number more, and on. -/
noncomputable def spanK {β : Type} (acc : List (Nat × Nat)) (n : Nat) (k : List (Nat × Nat) → β) : β :=
  match acc with
  | (s, l) :: r => cnd (Nat.beq (Nat.add s l) n) (forceN (Nat.succ l) fun l => k ((s, l) :: r)) (k ((n, 1) :: (s, l) :: r))
  | [] => k [(n, 1)]
theorem spanK_eq {β : Type} (acc : List (Nat × Nat)) (n : Nat) (k : List (Nat × Nat) → β) : spanK acc n k = k (spanStep acc n) := by
  cases acc with
  | nil => rfl
  | cons p r =>
    obtain ⟨s, l⟩ := p
    show cnd (Nat.beq (s + l) n) (forceN (Nat.succ l) fun l => k ((s, l) :: r)) (k ((n, 1) :: (s, l) :: r)) = k (cond (Nat.beq (s + l) n) ((s, l + 1) :: r) ((n, 1) :: (s, l) :: r))
    rw [cnd_eq, forceN_eq]
    cases Nat.beq (s + l) n <;> rfl
/-- The cells from off on, k of them, the first of them the i-th: how many are in the state s, and their spans. -/
noncomputable def allT (t : Tr Value) (s : Nat) : Nat → Nat → Nat → Nat → List (Nat × Nat) → Option (Nat × List (Nat × Nat))
  | 0, _, _, c, acc => some (c, acc)
  | k + 1, off, i, c, acc => forceN off fun off => forceN i fun i => Tr.cellK t off fun v => onP (asNat v) fun kd x => cnd (Nat.beq (kNum kd) 4)
      (cnd (Nat.beq x s) (forceN (Nat.succ c) fun c => spanK acc i fun acc => allT t s k (Nat.succ off) (Nat.succ i) c acc) (allT t s k (Nat.succ off) (Nat.succ i) c acc)) none
noncomputable def spansF (el : TypeId) (acc : List (Nat × Nat)) (tr : Tr FObj) (n : Nat) : Value × FH :=
  match acc with
  | [] => (.slice none 0 0, ⟨tr, n⟩)
  | x :: r => (.slice (some ⟨n + 2 * r.length + 1, 0, none⟩) (r.length + 1) openCap, ⟨tr.set (n + 2 * r.length + 1) (.cells (Tr.nil.setL 0 (flat (x :: r))) (2 * (r.length + 1)) el false), n + 2 * r.length + 2⟩)
noncomputable def fAll (el : TypeId) : List Value → FH → Option (Value × FH)
  | [.pointer (some ⟨b, off, none⟩), .int .u8 (.ofNat s)], h =>
    match h.get b with
    | some (.cells t m _ _) =>
      match allT t s 1024 off 0 0 [] with
      | some (c, acc) => cond (Nat.ble (off + 1024) m && Nat.blt b h.next) (some (spansF el acc h.tr (h.next + 2 * c + 1))) none
      | none => none
    | _ => none
  | _, _ => none
theorem foldl_snoc (N : List Nat) (i : Nat) : (N ++ [i]).foldl spanStep [] = spanStep (N.foldl spanStep []) i := by simp
theorem allT_C {t : Tr Value} {s : Nat} : ∀ (k off i c : Nat) (acc : List (Nat × Nat)) (N : List Nat) (c' : Nat) (acc' : List (Nat × Nat)), allT t s k off i c acc = some (c', acc') → N.length = c → N.foldl spanStep [] = acc → (∀ n ∈ N, n < i) → N.Pairwise (· < ·) →
    ∃ N', allC (t.subL off k) s i N = some N' ∧ N'.length = c' ∧ N'.foldl spanStep [] = acc' ∧ (∀ n ∈ N', n < i + k) ∧ N'.Pairwise (· < ·)
  | 0, off, i, c, acc, N, c', acc', h, h1, h2, h3, h4 => by
    simp only [allT, Option.some.injEq, Prod.mk.injEq] at h
    obtain ⟨rfl, rfl⟩ := h
    exact ⟨N, rfl, h1, h2, h3, h4⟩
  | k + 1, off, i, c, acc, N, c', acc', h, h1, h2, h3, h4 => by
    unfold allT at h
    rw [forceN_eq, forceN_eq, Tr.cellK_cell] at h
    obtain ⟨kd, x, g1, g2⟩ := onP_some h
    obtain ⟨g3, g4⟩ := cnd_some' g2
    have hv := asNat_some g1
    have hkd : kd = .u8 := kNum_inj (k' := .u8) g3
    subst hkd
    rw [cnd_eq] at g4
    have hc : t.subL off (k + 1) = .int .u8 (.ofNat x) :: t.subL (off + 1) k := by
      simp only [Tr.subL, Tr.cellK_cell, hv]
    cases hx : Nat.beq x s with
    | true =>
      rw [hx, cond_true, forceN_eq, spanK_eq] at g4
      obtain ⟨N', e1, e2, e3, e4, e5⟩ := allT_C k (off + 1) (i + 1) (c + 1) _ (N ++ [i]) c' acc' g4 (by simp [h1]) (by rw [foldl_snoc, h2]) (fun n hn => by
        rcases List.mem_append.1 hn with q | q
        · have := h3 n q; omega
        · simp only [List.mem_singleton] at q; omega) (List.pairwise_append.2 ⟨h4, List.pairwise_singleton _ _, fun a ha b hb => by
          simp only [List.mem_singleton] at hb
          have := h3 a ha
          omega⟩)
      refine ⟨N', ?_, e2, e3, fun n hn => by have := e4 n hn; omega, e5⟩
      rw [hc]
      simp only [allC, hx, cond_true]
      exact e1
    | false =>
      rw [hx, cond_false] at g4
      obtain ⟨N', e1, e2, e3, e4, e5⟩ := allT_C k (off + 1) (i + 1) c _ N c' acc' g4 h1 h2 (fun n hn => by have := h3 n hn; omega) h4
      refine ⟨N', ?_, e2, e3, fun n hn => by have := e4 n hn; omega, e5⟩
      rw [hc]
      simp only [allC, hx, cond_false]
      exact e1
theorem spansF_abs (el : TypeId) (acc : List (Nat × Nat)) (tr : Tr FObj) (n : Nat) : spansR el acc (tr.map FObj.abs) n = ((spansF el acc tr n).1, (spansF el acc tr n).2.abs) := by
  cases acc with
  | nil => rfl
  | cons x r =>
    simp only [spansR, spansF]
    have hl : toL (Tr.nil.setL 0 (flat (x :: r))) (2 * (r.length + 1)) = flat (x :: r) := by
      have h1 := flat_len (x :: r)
      simp only [List.length_cons] at h1
      have := toL_ofList (flat (x :: r))
      rw [h1] at this
      exact this
    have : (FH.mk (tr.set (n + 2 * r.length + 1) (.cells (Tr.nil.setL 0 (flat (x :: r))) (2 * (r.length + 1)) el false)) (n + 2 * r.length + 2)).abs = ⟨(tr.map FObj.abs).set (n + 2 * r.length + 1) (.cells (flat (x :: r)) el false), n + 2 * r.length + 2⟩ := by
      show AH.mk (Tr.map FObj.abs (tr.set _ _)) _ = _
      rw [Tr.map_set]
      simp only [FObj.abs, hl]
    rw [this]
theorem fAll_ok {el : TypeId} {args : List Value} {h h' : FH} {v : Value} (hs : fAll el args h = some (v, h')) : xAll el args h.abs = some (v, h'.abs) ∧ h.next ≤ h'.next := by
  unfold fAll at hs
  split at hs
  rotate_left
  · simp at hs
  rename_i b off s
  split at hs
  rotate_left
  · simp at hs
  rename_i t m e ro hg
  split at hs
  rotate_left
  · simp at hs
  rename_i c acc hall
  obtain ⟨h1, h2⟩ := cond_some hs
  have h1' := h1
  simp only [Bool.and_eq_true] at h1
  have hle := Nat.le_of_ble_eq_true h1.1
  obtain ⟨N', e1, e2, e3, e4, e5⟩ := allT_C 1024 off 0 0 [] [] c acc hall rfl rfl (by simp) .nil
  rw [subL_toL hle] at e1
  have hsp := spans_of (N := N') (fun n hn => by have := e4 n hn; omega) e5
  rw [e3] at hsp
  have hpair : spansF el acc h.tr (h.next + 2 * c + 1) = (v, h') := h2
  constructor
  · simp only [xAll, FH.abs_get, hg, Option.map_some, FObj.abs, length_toL, e1, h1', cond_true]
    have : (Nat.ble (off + 1024) m && Nat.blt b h.abs.next) = true := h1'
    rw [this]
    simp only [cond_true, hsp]
    have h3 := spansF_abs el acc h.tr (h.next + 2 * c + 1)
    rw [hpair] at h3
    rw [e2]
    exact congrArg some h3
  · have : h' = (spansF el acc h.tr (h.next + 2 * c + 1)).2 := by rw [hpair]
    rw [this]
    cases acc with
    | nil => simp only [spansF]; omega
    | cons x r => simp only [spansF]; omega
end Go.Am
