/-
  BYTES AS A SECTOR, as the document has it; sectors' keys.
-/
import Derived.Test.YteblpmcekhcgiabCPile
import Derived.Test.YteblpmcekhcgiabAmH
set_option linter.unusedVariables false
set_option linter.unusedSimpArgs false
set_option maxRecDepth 100000
namespace Go.Am
open Go.Proofs
theorem mapM_got {α β : Type} {f : α → Option β} : ∀ (l : List α) (m : List β), m.length = l.length → (∀ (i : Nat) (x : α), l[i]? = some x → f x = m[i]?) → l.mapM f = some m
  | [], [], _, _ => rfl
  | x :: l, y :: m, hl, h => by
    have h0 := h 0 x rfl
    have ih := mapM_got (f := f) l m (by simpa using hl) fun i x hx => h (i + 1) x hx
    simp only [List.getElem?_cons_zero] at h0
    rw [List.mapM_cons, h0, ih]
    rfl
def secL (s : List Nat) : List Lit := s.map fun (x : Nat) => Lit.int .u8 x
theorem aKey_array {P : Program} {t e : TypeId} {k : Nat} (hu : P.underlying t = some (.array k e)) {n d : Nat} (hn : n = d + 1) (cs : List Value) :
    P.keyLits n t cs = if cs.length = P.cellsOf t then ((List.range k).mapM fun i => P.keyLits d e ((cs.drop (i * P.cellsOf e)).take (P.cellsOf e))).map List.flatten else none := by
  subst hn
  rw [Program.keyLits.eq_def]
  dsimp only
  rw [hu]
theorem flat_one {α : Type} : ∀ l : List α, (l.map fun x => [x]).flatten = l
  | [] => rfl
  | x :: l => by simp only [List.map_cons, List.flatten_cons, flat_one l]; rfl
theorem drop_take_one {α : Type} {l : List α} {i : Nat} (hi : i < l.length) : (l.drop i).take 1 = [l[i]] := by
  rw [List.drop_eq_getElem_cons hi]
  rfl
theorem wf_u8 {x : Nat} (hx : x < 256) : (Lit.int .u8 (x : Int)).wf = true := by
  simp [Lit.wf, IntKind.min, IntKind.max, IntKind.signed, IntKind.bits]
  omega
theorem fSec {s : List Nat} (hs : Sec s) : (Value.agg (secC s).toArray).formed Try.prog 57 = true := by
  have := secC_len hs
  simp [Value.formed, this]
theorem kSec {s : List Nat} (hs : Sec s) : keyA Try.prog 57 (.agg (secC s).toArray) = some (secL s) := by
  have hl := secC_len hs
  have k3 := fun (x : Int) => aKey_intN (P := Try.prog) Try.underlying5 (m := 39) (d := 38) rfl x
  rw [aKey_eq (fSec hs), aKey_array Try.underlying57 (d := 39) rfl]
  generalize Try.prog.keyLits 39 = KL at k3 ⊢
  simp only [List.toList_toArray]
  have hc1 : Try.prog.cellsOf 57 = 128 := by simp
  have hc2 : Try.prog.cellsOf 5 = 1 := by simp
  rw [if_pos (by rw [hl, hc1]), hc2]
  have : (List.range 128).mapM (fun i => KL 5 (((secC s).drop (i * 1)).take 1)) = some (s.map fun (x : Nat) => [Lit.int .u8 x]) := by
    refine mapM_got _ _ (by simp [hs.1]) fun i x hi => ?_
    have hi128 : i < 128 := by have := (List.getElem?_eq_some_iff.1 hi).1; simpa using this
    rw [List.getElem?_range hi128] at hi
    obtain rfl : i = x := by simpa using hi
    have hlt : i < s.length := by rw [hs.1]; exact hi128
    rw [Nat.mul_one, drop_take_one (by rw [hl]; exact hi128)]
    have e : (secC s)[i]'(by rw [hl]; exact hi128) = .int .u8 (s[i] : Nat) := by simp [secC, natC]
    rw [e, k3, if_pos (wf_u8 (hs.2 _ (List.getElem_mem hlt)))]
    simp [hlt]
  rw [this]
  simp only [Option.map_some, Option.some.injEq]
  have := flat_one (secL s)
  unfold secL at this ⊢
  rw [List.map_map] at this
  exact this
theorem lits_sec : ∀ {s t : List Nat}, litsEq (secL s) (secL t) = decide (s = t)
  | [], [] => rfl
  | [], _ :: _ => rfl
  | _ :: _, [] => rfl
  | x :: s, y :: t => by
    have ih := lits_sec (s := s) (t := t)
    show (litEq (.int .u8 x) (.int .u8 y) && litsEq (secL s) (secL t)) = _
    rw [ih]
    by_cases h1 : x = y <;> by_cases h2 : s = t <;> simp [litEq, h1, h2]
    · omega
section
variable {K : Xs} {h : AH}
/-- What stands in a sector while bytes are laid. -/
def part (data : List Nat) (i : Nat) : List Nat := data.take i ++ List.replicate (128 - i) 0
theorem part_zero (data : List Nat) : part data 0 = List.replicate 128 0 := rfl
theorem part_set {data : List Nat} {i : Nat} (hi : i < data.length) (h128 : i < 128) : (part data i).set i data[i] = part data (i + 1) := by
  unfold part
  have hl : (data.take i).length = i := by rw [List.length_take]; omega
  rw [List.set_append, hl, if_neg (Nat.lt_irrefl i), Nat.sub_self, show 128 - i = (128 - (i + 1)) + 1 by omega, List.replicate_succ, List.set_cons_zero, List.take_succ_eq_append_getElem hi, List.append_assoc]
  rfl
theorem part_end (data : List Nat) {i : Nat} (h : i = data.length ∨ i = 128) (hi : i ≤ data.length) (h128 : i ≤ 128) : part data i = blkOf (data.take 128) := by
  unfold part blkOf
  rcases h with rfl | rfl
  · rw [List.take_of_length_le (Nat.le_refl _), List.take_of_length_le h128]
  · rw [List.length_take, Nat.min_eq_left hi]
theorem secC_set (s : List Nat) (i x : Nat) : (secC s).set i (.int .u8 x) = secC (s.set i x) := by simp [secC, natC, List.map_set]
theorem refBlock (hk : K 33 = none) {pp : Option Addr} {n c : Nat} {data : List Nat} (hd : Shows h pp n 1 (natC .u8 data)) :
    Wf Try.prog K 33 [.slice pp n c] h fun v h' => v = .agg (secC (blkOf (data.take 128))).toArray ∧ Old h h' := by
  have hn : n = data.length := by have := hd.1; rw [natC_len] at this; omega
  subst hn
  refine vc_aquiferref09_Block hk _ _ _ h _ fun g0 e0 => ⟨secC (List.replicate 128 0), ?_, fun g2 e2 => ⟨by simp [secC, natC], _, stN_all (get_of_alloc e2) (by simp [secC, natC]), ?_⟩⟩
  · rw [← secC_zero]; exact zSec
  have o0 := old_of_alloc e0
  have o2 := old_of_alloc e2
  have n0 := next_of_alloc e0
  have n2 := next_of_alloc e2
  have k3 := near_set g0.next g2 (.cells (secC (List.replicate 128 0)) 57 false)
  refine ⟨fun i k g => ∃ j : Nat, i = j ∧ j ≤ data.length ∧ j ≤ 128 ∧ 128 - j = k ∧ g.next = g2.next ∧ Old h g ∧ g.get g0.next = some (.cells (secC (part data j)) 57 false) ∧ g.get h.next = some (.cells (List.replicate 128 (.int .u8 0)) 57 false),
    ⟨128, 0, rfl, Nat.zero_le _, Nat.zero_le _, rfl, k3.1, ?_, get_set_self _ _ _, ?_⟩, ?_⟩
  · exact ⟨by rw [k3.1, n2, n0]; omega, fun c hc => by rw [k3.2 c (by omega), o2.2 c (by omega), o0.2 c hc]⟩
  · rw [k3.2 _ (by omega), o2.2 _ (by omega)]
    exact get_of_alloc e0
  rintro k5 g i8 ⟨j, rfl, h1, h2, rfl, hn, ho, hc, hr⟩
  have last : ∀ (q : j = data.length ∨ j = 128), ∃ l14 : List Value, ldN g g0.next 0 128 = some l14 ∧ ((List.length l14 = 128) ∧ ∃ h15 : AH, stN g h.next 0 l14 = some h15 ∧
      (∃ l16 : List Value, ldN h15 h.next 0 128 = some l16 ∧ (Value.agg l16.toArray = .agg (secC (blkOf (data.take 128))).toArray ∧ Old h h15))) := by
    intro q
    rw [part_end data q h1 h2] at hc
    have hl : (secC (blkOf (data.take 128))).length = 128 := by simp [secC, natC, blkOf]; omega
    exact ⟨_, ldN_all hc hl, hl, _, stN_all hr (by simp [hl]), _, ldN_all (get_set_self _ _ _) hl, rfl, ho.1, fun c hc => by rw [(near_set h.next g _).2 c (by omega), ho.2 c hc]⟩
  refine ⟨fun q => ⟨fun q2 => ?_, fun q2 => last (by omega)⟩, fun q => last (by omega)⟩
  have hj : j < data.length := by omega
  obtain ⟨b, off, hpb, hld⟩ := (hd.old ho).get hj
  rw [natC_get hj] at hld
  subst hpb
  refine derefP_at ⟨by omega, q, _, by rw [Int.toNat_natCast, Nat.mul_one]; exact hld, by omega, q2, _, st1_of hc (by simp [secC, natC, part]; omega), fun i13 e13 => ?_⟩
  have e13 := i64w e13 (by omega) (by omega)
  refine ⟨128 - (j + 1), by omega, j + 1, by rw [e13]; rfl, hj, by omega, rfl, (near_set _ _ _).1.trans hn, ⟨by rw [(near_set g0.next g _).1]; exact ho.1, fun c hc => by rw [(near_set g0.next g _).2 c (by omega), ho.2 c hc]⟩, ?_, by rw [(near_set g0.next g _).2 _ (by omega)]; exact hr⟩
  rw [get_set_self, Nat.zero_add, Int.toNat_natCast, Nat.mul_one, secC_set, part_set hj (by omega)]
end
end Go.Am
