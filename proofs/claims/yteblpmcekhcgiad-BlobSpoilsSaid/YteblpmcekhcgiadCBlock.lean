/-
  BYTES AS A SECTOR, as the document has it; sectors' keys.
-/
import Derived.Test.YteblpmcekhcgiadCPile
import Derived.Test.YteblpmcekhcgiadAmH
set_option linter.unusedVariables false
set_option linter.unusedSimpArgs false
set_option maxRecDepth 100000
namespace Go.Am
open Go.Proofs
theorem mapM_got {α β : Type} {f : α → Option β} : ∀ (l : List α) (m : List β), m.length = l.length → (∀ (i : Nat) (x : α), l[i]? = some x → f x = m[i]?) → l.mapM f = some m
  | [], [], _, _ => rfl
  | x :: l, y :: m, hl, h => by
    have h0 := h 0 x rfl
    have ih := mapM_got (f := f) l m (by simpa using hl) fun i x hx => h (i + 1) x hx
    simp only [List.getElem?_cons_zero] at h0
    rw [List.mapM_cons, h0, ih]
    rfl
def secL (s : List Nat) : List Lit := s.map fun (x : Nat) => Lit.int .u8 x
theorem aKey_array {P : Program} {t e : TypeId} {k : Nat} (hu : P.underlying t = some (.array k e)) {n d : Nat} (hn : n = d + 1) (cs : List Value) :
    P.keyLits n t cs = if cs.length = P.cellsOf t then ((List.range k).mapM fun i => P.keyLits d e ((cs.drop (i * P.cellsOf e)).take (P.cellsOf e))).map List.flatten else none := by
  subst hn
  rw [Program.keyLits.eq_def]
  dsimp only
  rw [hu]
theorem flat_one {α : Type} : ∀ l : List α, (l.map fun x => [x]).flatten = l
  | [] => rfl
  | x :: l => by simp only [List.map_cons, List.flatten_cons, flat_one l]; rfl
theorem drop_take_one {α : Type} {l : List α} {i : Nat} (hi : i < l.length) : (l.drop i).take 1 = [l[i]] := by
  rw [List.drop_eq_getElem_cons hi]
  rfl
theorem wf_u8 {x : Nat} (hx : x < 256) : (Lit.int .u8 (x : Int)).wf = true := by
  simp [Lit.wf, IntKind.min, IntKind.max, IntKind.signed, IntKind.bits]
  omega
theorem fSec {s : List Nat} (hs : Sec s) : (Value.agg (secC s).toArray).formed Try.prog 46 = true := by
  have := secC_len hs
  simp [Value.formed, this]
theorem kSec {s : List Nat} (hs : Sec s) : keyA Try.prog 46 (.agg (secC s).toArray) = some (secL s) := by
  have hl := secC_len hs
  have k3 := fun (x : Int) => aKey_intN (P := Try.prog) Try.underlying5 (m := 39) (d := 38) rfl x
  rw [aKey_eq (fSec hs), aKey_array Try.underlying46 (d := 39) rfl]
  generalize Try.prog.keyLits 39 = KL at k3 ⊢
  simp only [List.toList_toArray]
  have hc1 : Try.prog.cellsOf 46 = 128 := by simp
  have hc2 : Try.prog.cellsOf 5 = 1 := by simp
  rw [if_pos (by rw [hl, hc1]), hc2]
  have : (List.range 128).mapM (fun i => KL 5 (((secC s).drop (i * 1)).take 1)) = some (s.map fun (x : Nat) => [Lit.int .u8 x]) := by
    refine mapM_got _ _ (by simp [hs.1]) fun i x hi => ?_
    have hi128 : i < 128 := by have := (List.getElem?_eq_some_iff.1 hi).1; simpa using this
    rw [List.getElem?_range hi128] at hi
    obtain rfl : i = x := by simpa using hi
    have hlt : i < s.length := by rw [hs.1]; exact hi128
    rw [Nat.mul_one, drop_take_one (by rw [hl]; exact hi128)]
    have e : (secC s)[i]'(by rw [hl]; exact hi128) = .int .u8 (s[i] : Nat) := by simp [secC, natC]
    rw [e, k3, if_pos (wf_u8 (hs.2 _ (List.getElem_mem hlt)))]
    simp [hlt]
  rw [this]
  simp only [Option.map_some, Option.some.injEq]
  have := flat_one (secL s)
  unfold secL at this ⊢
  rw [List.map_map] at this
  exact this
theorem lits_sec : ∀ {s t : List Nat}, litsEq (secL s) (secL t) = decide (s = t)
  | [], [] => rfl
  | [], _ :: _ => rfl
  | _ :: _, [] => rfl
  | x :: s, y :: t => by
    have ih := lits_sec (s := s) (t := t)
    show (litEq (.int .u8 x) (.int .u8 y) && litsEq (secL s) (secL t)) = _
    rw [ih]
    by_cases h1 : x = y <;> by_cases h2 : s = t <;> simp [litEq, h1, h2]
    · omega
section
variable {K : Xs} {h : AH}
/-- What stands in a sector while bytes are laid. -/
def part (data : List Nat) (i : Nat) : List Nat := data.take i ++ List.replicate (128 - i) 0
theorem part_zero (data : List Nat) : part data 0 = List.replicate 128 0 := rfl
theorem part_set {data : List Nat} {i : Nat} (hi : i < data.length) (h128 : i < 128) : (part data i).set i data[i] = part data (i + 1) := by
  unfold part
  have hl : (data.take i).length = i := by rw [List.length_take]; omega
  rw [List.set_append, hl, if_neg (Nat.lt_irrefl i), Nat.sub_self, show 128 - i = (128 - (i + 1)) + 1 by omega, List.replicate_succ, List.set_cons_zero, List.take_succ_eq_append_getElem hi, List.append_assoc]
  rfl
theorem part_end (data : List Nat) {i : Nat} (h : i = data.length ∨ i = 128) (hi : i ≤ data.length) (h128 : i ≤ 128) : part data i = blkOf (data.take 128) := by
  unfold part blkOf
  rcases h with rfl | rfl
  · rw [List.take_of_length_le (Nat.le_refl _), List.take_of_length_le h128]
  · rw [List.length_take, Nat.min_eq_left hi]
theorem secC_set (s : List Nat) (i x : Nat) : (secC s).set i (.int .u8 x) = secC (s.set i x) := by simp [secC, natC, List.map_set]
end
end Go.Am
