/-
  THE MAP OF SECTORS: what is told of its tests and its sets, and the set of some numbers.
-/
import Derived.Test.YtkggibodlljkcaiGreatAm6b
set_option linter.unusedVariables false
set_option linter.unusedSimpArgs false
namespace Go.Am
theorem Wf_sum {P : Program} {K : Xs} {h : AH} {f : FuncId} {args : List Value} {Q : Value → AH → Prop} {g : List Value → AH → Option (Value × AH)} (hk : K f = some (.sum g)) {v : Value} {h' : AH} (hg : g args h = some (v, h')) (hn : h.next ≤ h'.next) (hq : Q v h') :
    Wf P K f args h Q := by
  refine ⟨0, v, h', ?_, hq⟩
  unfold callX
  rw [hk]
  simp only
  unfold callF grown
  rw [hk]
  simp only [hg]
  have : Nat.ble h.next h'.next = true := Nat.ble_eq_true_of_le hn
  simp only [this]
/-- Is a sector's state that? -/
def xIs : List Value → AH → Option (Value × AH)
  | [.pointer (some ⟨b, off, none⟩), .int .i64 (.ofNat i), .int .u8 (.ofNat s)], h =>
    match h.get b with
    | some (.cells cs _ _) =>
      match cs[off + i]? with
      | some (.int .u8 (.ofNat x)) => cond (Nat.blt i 1024) (some (.bool (Nat.beq x s), h)) none
      | _ => none
    | _ => none
  | _, _ => none
/-- Numbers as bits. -/
def bitsL (N : List Nat) : List Value := (List.range 4096).map fun j => .bool (N.contains j)
def numsOf : List Value → Option (List Nat)
  | [] => some []
  | .int .i64 (.ofNat n) :: r => cond (Nat.blt n 4096) (match numsOf r with | some l => some (n :: l) | none => none) none
  | _ => none
/-- What comes of spans: their slice, in the block b. -/
def spansR (el : TypeId) (acc : List (Nat × Nat)) (tr : Tr AObj) (n : Nat) : Value × AH :=
  match acc with
  | [] => (.slice none 0 0, ⟨tr, n⟩)
  | x :: r => (.slice (some ⟨n + 2 * r.length + 1, 0, none⟩) (r.length + 1) openCap, ⟨tr.set (n + 2 * r.length + 1) (.cells (flat (x :: r)) el false), n + 2 * r.length + 2⟩)
/-- The set of some numbers. -/
def xOf (el : TypeId) : List Value → AH → Option (Value × AH)
  | [.slice none 0 0], h => some (.slice none 0 0, ⟨h.tr, h.next + 1⟩)
  | [.slice (some ⟨b, off, none⟩) n c], h =>
    match h.get b with
    | some (.cells cs _ _) =>
      match numsOf ((cs.drop off).take n) with
      | some N => cond (Nat.ble (off + n) cs.length && Nat.blt n 9223372036854775807 && Nat.blt b h.next)
          (match spansC (bitsL N) 0 [] with | some acc => some (spansR el acc h.tr (h.next + 1)) | none => none) none
      | none => none
    | _ => none
  | _, _ => none
/-- The numbers of the sectors in a state. -/
def allC : List Value → Nat → Nat → List Nat → Option (List Nat)
  | [], _, _, N => some N
  | .int .u8 (.ofNat x) :: r, s, i, N => allC r s (i + 1) (cond (Nat.beq x s) (N ++ [i]) N)
  | _ :: _, _, _, _ => none
def xAll (el : TypeId) : List Value → AH → Option (Value × AH)
  | [.pointer (some ⟨b, off, none⟩), .int .u8 (.ofNat s)], h =>
    match h.get b with
    | some (.cells cs _ _) =>
      match allC ((cs.drop off).take 1024) s 0 [] with
      | some N => cond (Nat.ble (off + 1024) cs.length && Nat.blt b h.next)
          (match spansC (bitsL N) 0 [] with | some acc => some (spansR el acc h.tr (h.next + 2 * N.length + 1)) | none => none) none
      | none => none
    | _ => none
  | _, _ => none
/-! ## What the numbers' spans are, for the kernel -/
theorem bitsL_len (N : List Nat) : (bitsL N).length = 4096 := by simp [bitsL]
theorem bitsL_get (N : List Nat) (j : Nat) : (bitsL N)[j]? = if j < 4096 then some (.bool (N.contains j)) else none := by
  simp only [bitsL, List.getElem?_map]
  by_cases h : j < 4096
  · rw [if_pos h, List.getElem?_range h]
    rfl
  · rw [if_neg h, List.getElem?_eq_none (by simpa using h)]
    rfl
theorem bitsL_set (N : List Nat) (n : Nat) (hn : n < 4096) : (bitsL N).set n (.bool true) = bitsL (N ++ [n]) := by
  apply List.ext_getElem?
  intro j
  rw [List.getElem?_set, bitsL_get, bitsL_get, bitsL_len]
  by_cases h : n = j
  · subst h
    rw [if_pos rfl, if_pos hn, if_pos hn]
    simp
  · rw [if_neg h]
    by_cases h2 : j < 4096
    · rw [if_pos h2, if_pos h2]
      have : ¬ (j = n) := fun q => h q.symm
      simp [this]
    · rw [if_neg h2, if_neg h2]
theorem spans_bits : ∀ (k i : Nat) (N : List Nat) (acc : List (Nat × Nat)), (∀ n ∈ N, i ≤ n) → (∀ n ∈ N, n < i + k) → N.Pairwise (· < ·) →
    spansC ((List.range' i k).map fun j => .bool (N.contains j)) i acc = some (N.foldl spanStep acc)
  | 0, i, N, acc, h1, h2, hp => by
    cases N with
    | nil => rfl
    | cons n N => have := h1 n (by simp); have := h2 n (by simp); omega
  | k + 1, i, N, acc, h1, h2, hp => by
    rw [List.range'_succ, List.map_cons]
    unfold spansC
    cases N with
    | nil =>
      have := spans_bits k (i + 1) [] acc (by simp) (by simp) .nil
      simpa using this
    | cons n N =>
      rw [List.pairwise_cons] at hp
      by_cases hn : n = i
      · subst hn
        have := spans_bits k (n + 1) N (spanStep acc n) (fun m hm => hp.1 m hm) (fun m hm => by have := h2 m (by simp [hm]); omega) hp.2
        have e : ((List.range' (n + 1) k).map fun j => (.bool ((n :: N).contains j) : Value)) = (List.range' (n + 1) k).map fun j => .bool (N.contains j) := by
          apply List.map_congr_left
          intro j hj
          have hj' := List.mem_range'_1.1 hj
          have : ¬ (j = n) := by omega
          simp [this]
        simp only [List.contains_cons, BEq.rfl, Bool.true_or, cond_true, List.foldl_cons]
        rw [← this]
        congr 1
      · have h3 := h1 n (by simp)
        have hni : (n :: N).contains i = false := by
          simp only [List.contains_eq_mem, decide_eq_false_iff_not, List.mem_cons, not_or]
          exact ⟨fun q => hn q.symm, fun q => by have := hp.1 i q; omega⟩
        rw [hni]
        simp only [cond_false]
        exact spans_bits k (i + 1) (n :: N) acc (fun m hm => by
          rcases List.mem_cons.1 hm with rfl | hm
          · omega
          · have := hp.1 m hm; omega) (fun m hm => by have := h2 m hm; omega) (List.pairwise_cons.2 hp)
theorem spans_of {N : List Nat} (h2 : ∀ n ∈ N, n < 4096) (hp : N.Pairwise (· < ·)) : spansC (bitsL N) 0 [] = some (N.foldl spanStep []) := by
  unfold bitsL
  rw [List.range_eq_range']
  exact spans_bits 4096 0 N [] (fun _ _ => Nat.zero_le _) (fun n hn => by have := h2 n hn; omega) hp
end Go.Am
