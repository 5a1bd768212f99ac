/-
  THE SUM OF BYTES: what is told of it, for both machines, and what its operations give.
-/
import Derived.Test.YtnapccecmcdnjacGreatAmE
import Derived.Test.YtnapccecmcdnjacGreatAmD
set_option linter.unusedVariables false
set_option linter.unusedSimpArgs false
namespace Go.Am
def crcStep (x : Nat) : Nat := cond (Nat.beq (Nat.land x 1) 1) (Nat.xor (Nat.shiftRight x 1) 2197175160) (Nat.shiftRight x 1)
def crcs : Nat → Nat → Nat
  | 0, x => x
  | k + 1, x => crcs k (crcStep x)
def bytesC : List Value → Nat → Option Nat
  | [], x => some x
  | .int .u8 (.ofNat c) :: r, x => cond (Nat.blt c 256 && Nat.blt (crcs 8 (Nat.xor x c)) 4294967296) (bytesC r (crcs 8 (Nat.xor x c))) none
  | _, _ => none
noncomputable def bytesT (t : Tr Value) : Nat → Nat → Nat → Option Nat
  | 0, off, x => some x
  | n + 1, off, x => match t.cell off with | .int .u8 (.ofNat c) => cond (Nat.blt c 256 && Nat.blt (crcs 8 (Nat.xor x c)) 4294967296) (bytesT t n (off + 1) (crcs 8 (Nat.xor x c))) none | _ => none
def xMore : List Value → AH → Option (Value × AH)
  | [.int .u32 (.ofNat s), .slice (some ⟨b, off, none⟩) n c], h =>
    match h.get b with
    | some (.cells cs _ _) => cond (Nat.blt s 4294967296 && Nat.ble (off + n) cs.length && Nat.blt n 9223372036854775807) (match bytesC ((cs.drop off).take n) (Nat.xor s 4294967295) with | some r => some (.int .u32 (.ofNat (Nat.xor r 4294967295)), h) | none => none) none
    | _ => none
  | _, _ => none
noncomputable def fMore : List Value → FH → Option (Value × FH)
  | [.int .u32 (.ofNat s), .slice (some ⟨b, off, none⟩) n c], h =>
    match h.get b with
    | some (.cells t m _ _) => cond (Nat.blt s 4294967296 && Nat.ble (off + n) m && Nat.blt n 9223372036854775807) (match bytesT t n off (Nat.xor s 4294967295) with | some r => some (.int .u32 (.ofNat (Nat.xor r 4294967295)), h) | none => none) none
    | _ => none
  | _, _ => none
theorem bytesT_C {t : Tr Value} : ∀ (n off x r : Nat), bytesT t n off x = some r → bytesC (t.subL off n) x = some r
  | 0, off, x, r, h => by simpa [bytesT, Tr.subL, bytesC] using h
  | n + 1, off, x, r, h => by
    unfold bytesT at h
    split at h
    · rename_i c hc
      obtain ⟨h1, h2⟩ := cond_some' h
      simp only [Tr.subL, Tr.cellK_cell, hc, bytesC, h1, cond_true]
      exact bytesT_C n _ _ _ h2
    · simp at h
theorem fMore_ok {args : List Value} {h h' : FH} {v : Value} (hs : fMore args h = some (v, h')) : xMore args h.abs = some (v, h'.abs) ∧ h.next ≤ h'.next := by
  unfold fMore at hs
  split at hs
  rotate_left
  · simp at hs
  rename_i s b off n c
  split at hs
  rotate_left
  · simp at hs
  rename_i t m e ro hg
  obtain ⟨h1, h2⟩ := cond_some' hs
  have h1' := h1
  simp only [Bool.and_eq_true] at h1
  have hle := Nat.le_of_ble_eq_true h1.1.2
  split at h2
  rotate_left
  · simp at h2
  rename_i r hr
  simp only [Option.some.injEq, Prod.mk.injEq] at h2
  obtain ⟨rfl, rfl⟩ := h2
  refine ⟨?_, Nat.le_refl _⟩
  have hb := bytesT_C _ _ _ _ hr
  rw [subL_toL hle] at hb
  simp only [xMore, FH.abs_get, hg, Option.map_some, FObj.abs, length_toL, h1', cond_true, hb]
theorem crcStep_lt {x : Nat} (h : x < 4294967296) : crcStep x < 4294967296 := by
  have h1 : Nat.shiftRight x 1 < 4294967296 := by
    show x >>> 1 < _
    rw [Nat.shiftRight_eq_div_pow]
    omega
  unfold crcStep
  cases Nat.beq (Nat.land x 1) 1
  · exact h1
  · exact Nat.xor_lt_two_pow (n := 32) h1 (by decide)
section
variable {P : Program}
theorem bv_and32 {x y : Nat} (hx : x < 4294967296) (hy : y < 4294967296) : IntKind.u32.wrap (BitVec.ofInt IntKind.u32.bits (x : Int) &&& BitVec.ofInt IntKind.u32.bits (y : Int)).toNat = ((x &&& y : Nat) : Int) := by
  have h1 : (BitVec.ofInt IntKind.u32.bits (x : Int) &&& BitVec.ofInt IntKind.u32.bits (y : Int)).toNat = x &&& y := by
    rw [BitVec.toNat_and, BitVec.ofInt_natCast, BitVec.ofInt_natCast, BitVec.toNat_ofNat, BitVec.toNat_ofNat]
    show (x % 2 ^ 32) &&& (y % 2 ^ 32) = _
    rw [Nat.mod_eq_of_lt hx, Nat.mod_eq_of_lt hy]
  rw [h1]
  have h2 : x &&& y ≤ x := Nat.and_le_left
  simp [IntKind.wrap, IntKind.bits, IntKind.signed]
  omega
theorem bv_xor32 {x y : Nat} (hx : x < 4294967296) (hy : y < 4294967296) : IntKind.u32.wrap (BitVec.ofInt IntKind.u32.bits (x : Int) ^^^ BitVec.ofInt IntKind.u32.bits (y : Int)).toNat = ((x ^^^ y : Nat) : Int) := by
  have h1 : (BitVec.ofInt IntKind.u32.bits (x : Int) ^^^ BitVec.ofInt IntKind.u32.bits (y : Int)).toNat = x ^^^ y := by
    rw [BitVec.toNat_xor, BitVec.ofInt_natCast, BitVec.ofInt_natCast, BitVec.toNat_ofNat, BitVec.toNat_ofNat]
    show (x % 2 ^ 32) ^^^ (y % 2 ^ 32) = _
    rw [Nat.mod_eq_of_lt hx, Nat.mod_eq_of_lt hy]
  rw [h1]
  have h2 : x ^^^ y < 2 ^ 32 := Nat.xor_lt_two_pow hx hy
  simp [IntKind.wrap, IntKind.bits, IntKind.signed]
  omega
theorem aBin_and32 {t : TypeId} {x : Nat} (hx : x < 4294967296) : aBin P .and t (.int .u32 (x : Int)) (.int .u32 1) = some (.int .u32 ((x &&& 1 : Nat) : Int)) := by
  have := bv_and32 hx (show 1 < 4294967296 by decide)
  simp only [aBin, aInt, if_true]
  exact congrArg (fun z => some (Value.int .u32 z)) this
theorem aBin_xor32 {t : TypeId} {x y : Nat} (hx : x < 4294967296) (hy : y < 4294967296) : aBin P .xor t (.int .u32 (x : Int)) (.int .u32 (y : Int)) = some (.int .u32 ((x ^^^ y : Nat) : Int)) := by
  have := bv_xor32 hx hy
  simp only [aBin, aInt, if_true]
  exact congrArg (fun z => some (Value.int .u32 z)) this
theorem aBin_xorP {t : TypeId} {x : Nat} (hx : x < 4294967296) : aBin P .xor t (.int .u32 (x : Int)) (.int .u32 2197175160) = some (.int .u32 ((x ^^^ 2197175160 : Nat) : Int)) := aBin_xor32 (y := 2197175160) hx (by decide)
theorem aBin_shr32 {t : TypeId} {x : Nat} : aBin P .shr t (.int .u32 (x : Int)) (.int .u64 1) = some (.int .u32 ((x >>> 1 : Nat) : Int)) := by
  rw [Nat.shiftRight_eq_div_pow]
  have e1 : IntKind.u32.bits = 32 := rfl
  simp only [aBin, aShift]
  rw [if_neg (by decide)]
  rw [e1]
  have : min ((1 : Int).toNat) 32 = 1 := by decide
  simp only [this]
  congr 2
  rw [Int.fdiv_eq_ediv_of_nonneg _ (by decide)]
  norm_cast
theorem aUn_xor32 {x : Nat} (hx : x < 4294967296) : aUn .xor (.int .u32 (x : Int)) = some (.int .u32 ((x ^^^ 4294967295 : Nat) : Int)) := by
  have := bv_xor32 (x := 4294967295) (by decide) hx
  rw [Nat.xor_comm] at this
  simp only [aUn]
  exact congrArg (fun z => some (Value.int .u32 z)) this
end
theorem tells_of {P : Program} {K : Xs} {fa : FuncId} {g : List Value → AH → Option (Value × AH)} (hk : K fa = none)
    (T : ∀ args h v h', (∀ b o, h.get b = some o → b < h.next) → g args h = some (v, h') → Wf P K fa args h (fun v1 h1 => v1 = v ∧ (∀ b o, h'.get b = some o → h1.get b = some o) ∧ h1.next ≤ h'.next)) : Tells P K fa g := by
  intro args h v h' hwf hg
  obtain ⟨n, v1, h1, h2, rfl, h3, h4⟩ := T args h v h' hwf hg
  rw [callX_body hk] at h2
  exact ⟨n, h1, h2, h3, h4⟩
end Go.Am
/-
  SETS AS SPANS: what is told of them; appending to grown slices.
-/
set_option linter.unusedVariables false
set_option linter.unusedSimpArgs false
namespace Go.Am
/-- One number more, behind all that were; the last span first. -/
def spanStep (acc : List (Nat × Nat)) (n : Nat) : List (Nat × Nat) :=
  match acc with
  | (s, l) :: r => cond (Nat.beq (s + l) n) ((s, l + 1) :: r) ((n, 1) :: (s, l) :: r)
  | [] => [(n, 1)]
/-- The spans of the numbers whose cells say true. -/
def spansC : List Value → Nat → List (Nat × Nat) → Option (List (Nat × Nat))
  | [], _, acc => some acc
  | .bool b :: r, n, acc => spansC r (n + 1) (cond b (spanStep acc n) acc)
  | _ :: _, _, _ => none
/-- The cells of spans, the last span first. -/
def flat : List (Nat × Nat) → List Value
  | [] => []
  | (s, l) :: r => flat r ++ [.int .i64 (.ofNat s), .int .i64 (.ofNat l)]
theorem flat_len : ∀ acc, (flat acc).length = 2 * acc.length
  | [] => rfl
  | (s, l) :: r => by simp [flat, flat_len r]; omega
theorem flat_s (s l : Nat) (r : List (Nat × Nat)) : cellAt (flat ((s, l) :: r)) (r.length * 2) = some (.int .i64 s) := by
  have := flat_len r
  simp only [cellAt, flat]
  rw [List.getElem?_append_right (by omega), show r.length * 2 - (flat r).length = 0 by omega]
  rfl
theorem flat_l (s l : Nat) (r : List (Nat × Nat)) : cellAt (flat ((s, l) :: r)) (r.length * 2 + 1) = some (.int .i64 l) := by
  have := flat_len r
  simp only [cellAt, flat]
  rw [List.getElem?_append_right (by omega), show r.length * 2 + 1 - (flat r).length = 1 by omega]
  rfl
theorem flat_set (s l m : Nat) (r : List (Nat × Nat)) : (flat ((s, l) :: r)).set (r.length * 2 + 1) (.int .i64 m) = flat ((s, m) :: r) := by
  have := flat_len r
  simp only [flat]
  rw [List.set_append_right _ _ (by omega), show r.length * 2 + 1 - (flat r).length = 1 by omega]
  rfl
/-- A slice that was grown: m elements in the block b. -/
def grownV (m b : Nat) : Value := match m with | 0 => .slice none 0 0 | m + 1 => .slice (some ⟨b, 0, none⟩) (m + 1) openCap
section
variable {P : Program} {h : AH}
theorem aAppend_nil {st elem b : Nat} {i : TypeInfo} {z : Value} {new : List Value} {e2 : TypeId} {ro : Bool} (h1 : P.underlying st = some (.slice elem)) (h2 : P.info? elem = some i) (h3 : i.zero = some z) (h4 : z.cells.size = i.size) (h5 : 0 < i.size)
    (h6 : new.length = i.size) (h7 : h.get b = some (.cells new e2 ro)) (h8 : i.bytes ≤ roomMax) :
    aAppend P h st false (.slice none 0 0) (.slice (some ⟨b, 0, none⟩) 1 1) = some (.slice (some ⟨h.next, 0, none⟩) 1 openCap, h.alloc (.cells new elem false)) := by
  obtain ⟨k, hk⟩ : ∃ k, i.size = k + 1 := ⟨i.size - 1, by omega⟩
  have hf : firstC h i.size 1 (.slice (some ⟨b, 0, none⟩) 1 1) = some new := by
    simp only [firstC, Nat.one_mul, hk, h7]
    rw [if_pos ⟨Nat.le_refl _, by omega⟩]
    simp [← hk, ← h6]
  unfold aAppend
  rw [h1]
  simp only [h2, lenV, hf, h3]
  simp [firstC, h4, h5, h6, openCap]
  simp [roomMax] at h8 ⊢
  exact h8
theorem aAppend_open {st elem b b0 m : Nat} {i : TypeInfo} {z : Value} {old new : List Value} {e2 : TypeId} {ro : Bool} (h1 : P.underlying st = some (.slice elem)) (h2 : P.info? elem = some i) (h3 : i.zero = some z) (h4 : z.cells.size = i.size) (h5 : 0 < i.size)
    (h6 : new.length = i.size) (h7 : h.get b = some (.cells new e2 ro)) (h8 : (m + 1) * i.bytes ≤ roomMax) (h9 : h.get b0 = some (.cells old elem false)) (h10 : old.length = m * i.size) (h11 : m + 1 ≤ 9223372036854775807) (h12 : 0 < m) :
    aAppend P h st false (.slice (some ⟨b0, 0, none⟩) m openCap) (.slice (some ⟨b, 0, none⟩) 1 1) = some (.slice (some ⟨h.next, 0, none⟩) (m + 1) openCap, (h.del b0).alloc (.cells (old ++ new) elem false)) := by
  obtain ⟨k, hk⟩ : ∃ k, i.size = k + 1 := ⟨i.size - 1, by omega⟩
  have hf : firstC h i.size 1 (.slice (some ⟨b, 0, none⟩) 1 1) = some new := by
    simp only [firstC, Nat.one_mul, hk, h7]
    rw [if_pos ⟨Nat.le_refl _, by omega⟩]
    simp [← hk, ← h6]
  have hg : firstC h i.size m (.slice (some ⟨b0, 0, none⟩) m openCap) = some old := by
    have : 0 < m * i.size := Nat.mul_pos h12 h5
    obtain ⟨q, hq⟩ : ∃ q, m * i.size = q + 1 := ⟨m * i.size - 1, by omega⟩
    simp only [firstC, hq, h9]
    rw [if_pos ⟨Nat.le_refl _, by omega⟩]
    simp [← hq, ← h10]
  unfold aAppend
  rw [h1]
  simp only [h2, lenV, hf, hg, h3]
  rw [if_pos ⟨h4, h5, by omega, h10⟩, if_pos trivial]
  simp only [h9]
  rw [if_pos ⟨trivial, h8, h11⟩]
end
/-! ## The spans of a set of bits -/
def xSpans (el : TypeId) : List Value → AH → Option (Value × AH)
  | [.pointer (some ⟨b, off, none⟩)], h =>
    match h.get b with
    | some (.cells cs _ _) =>
      match spansC ((cs.drop off).take 4096) 0 [] with
      | some acc => cond (Nat.beq off 0 && Nat.ble 4096 cs.length && Nat.blt b h.next)
          (match acc with
           | [] => some (.slice none 0 0, h)
           | x :: r => some (.slice (some ⟨h.next + 2 * r.length + 1, 0, none⟩) (r.length + 1) openCap, { tr := h.tr.set (h.next + 2 * r.length + 1) (.cells (flat (x :: r)) el false), next := h.next + 2 * r.length + 2 })) none
      | none => none
    | _ => none
  | _, _ => none
end Go.Am
/-
  THE MAP OF SECTORS: what is told of its tests and its sets, and the set of some numbers.
-/
set_option linter.unusedVariables false
set_option linter.unusedSimpArgs false
namespace Go.Am
theorem Wf_sum {P : Program} {K : Xs} {h : AH} {f : FuncId} {args : List Value} {Q : Value → AH → Prop} {g : List Value → AH → Option (Value × AH)} (hk : K f = some (.sum g)) {v : Value} {h' : AH} (hg : g args h = some (v, h')) (hn : h.next ≤ h'.next) (hq : Q v h') :
    Wf P K f args h Q := by
  refine ⟨0, v, h', ?_, hq⟩
  unfold callX
  rw [hk]
  simp only
  unfold callF grown
  rw [hk]
  simp only [hg]
  have : Nat.ble h.next h'.next = true := Nat.ble_eq_true_of_le hn
  simp only [this]
/-- Is a sector's state that? -/
def xIs : List Value → AH → Option (Value × AH)
  | [.pointer (some ⟨b, off, none⟩), .int .i64 (.ofNat i), .int .u8 (.ofNat s)], h =>
    match h.get b with
    | some (.cells cs _ _) =>
      match cs[off + i]? with
      | some (.int .u8 (.ofNat x)) => cond (Nat.blt i 1024) (some (.bool (Nat.beq x s), h)) none
      | _ => none
    | _ => none
  | _, _ => none
/-- Numbers as bits. -/
def bitsL (N : List Nat) : List Value := (List.range 4096).map fun j => .bool (N.contains j)
def numsOf : List Value → Option (List Nat)
  | [] => some []
  | .int .i64 (.ofNat n) :: r => cond (Nat.blt n 4096) (match numsOf r with | some l => some (n :: l) | none => none) none
  | _ => none
/-- What comes of spans: their slice, in the block b. -/
def spansR (el : TypeId) (acc : List (Nat × Nat)) (tr : Tr AObj) (n : Nat) : Value × AH :=
  match acc with
  | [] => (.slice none 0 0, ⟨tr, n⟩)
  | x :: r => (.slice (some ⟨n + 2 * r.length + 1, 0, none⟩) (r.length + 1) openCap, ⟨tr.set (n + 2 * r.length + 1) (.cells (flat (x :: r)) el false), n + 2 * r.length + 2⟩)
/-- The set of some numbers. -/
def xOf (el : TypeId) : List Value → AH → Option (Value × AH)
  | [.slice none 0 0], h => some (.slice none 0 0, ⟨h.tr, h.next + 1⟩)
  | [.slice (some ⟨b, off, none⟩) n c], h =>
    match h.get b with
    | some (.cells cs _ _) =>
      match numsOf ((cs.drop off).take n) with
      | some N => cond (Nat.ble (off + n) cs.length && Nat.blt n 9223372036854775807 && Nat.blt b h.next)
          (match spansC (bitsL N) 0 [] with | some acc => some (spansR el acc h.tr (h.next + 1)) | none => none) none
      | none => none
    | _ => none
  | _, _ => none
/-- The numbers of the sectors in a state. -/
def allC : List Value → Nat → Nat → List Nat → Option (List Nat)
  | [], _, _, N => some N
  | .int .u8 (.ofNat x) :: r, s, i, N => allC r s (i + 1) (cond (Nat.beq x s) (N ++ [i]) N)
  | _ :: _, _, _, _ => none
def xAll (el : TypeId) : List Value → AH → Option (Value × AH)
  | [.pointer (some ⟨b, off, none⟩), .int .u8 (.ofNat s)], h =>
    match h.get b with
    | some (.cells cs _ _) =>
      match allC ((cs.drop off).take 1024) s 0 [] with
      | some N => cond (Nat.ble (off + 1024) cs.length && Nat.blt b h.next)
          (match spansC (bitsL N) 0 [] with | some acc => some (spansR el acc h.tr (h.next + 2 * N.length + 1)) | none => none) none
      | none => none
    | _ => none
  | _, _ => none
/-! ## What the numbers' spans are, for the kernel -/
theorem bitsL_len (N : List Nat) : (bitsL N).length = 4096 := by simp [bitsL]
theorem bitsL_get (N : List Nat) (j : Nat) : (bitsL N)[j]? = if j < 4096 then some (.bool (N.contains j)) else none := by
  simp only [bitsL, List.getElem?_map]
  by_cases h : j < 4096
  · rw [if_pos h, List.getElem?_range h]
    rfl
  · rw [if_neg h, List.getElem?_eq_none (by simpa using h)]
    rfl
theorem bitsL_set (N : List Nat) (n : Nat) (hn : n < 4096) : (bitsL N).set n (.bool true) = bitsL (N ++ [n]) := by
  apply List.ext_getElem?
  intro j
  rw [List.getElem?_set, bitsL_get, bitsL_get, bitsL_len]
  by_cases h : n = j
  · subst h
    rw [if_pos rfl, if_pos hn, if_pos hn]
    simp
  · rw [if_neg h]
    by_cases h2 : j < 4096
    · rw [if_pos h2, if_pos h2]
      have : ¬ (j = n) := fun q => h q.symm
      simp [this]
    · rw [if_neg h2, if_neg h2]
theorem spans_bits : ∀ (k i : Nat) (N : List Nat) (acc : List (Nat × Nat)), (∀ n ∈ N, i ≤ n) → (∀ n ∈ N, n < i + k) → N.Pairwise (· < ·) →
    spansC ((List.range' i k).map fun j => .bool (N.contains j)) i acc = some (N.foldl spanStep acc)
  | 0, i, N, acc, h1, h2, hp => by
    cases N with
    | nil => rfl
    | cons n N => have := h1 n (by simp); have := h2 n (by simp); omega
  | k + 1, i, N, acc, h1, h2, hp => by
    rw [List.range'_succ, List.map_cons]
    unfold spansC
    cases N with
    | nil =>
      have := spans_bits k (i + 1) [] acc (by simp) (by simp) .nil
      simpa using this
    | cons n N =>
      rw [List.pairwise_cons] at hp
      by_cases hn : n = i
      · subst hn
        have := spans_bits k (n + 1) N (spanStep acc n) (fun m hm => hp.1 m hm) (fun m hm => by have := h2 m (by simp [hm]); omega) hp.2
        have e : ((List.range' (n + 1) k).map fun j => (.bool ((n :: N).contains j) : Value)) = (List.range' (n + 1) k).map fun j => .bool (N.contains j) := by
          apply List.map_congr_left
          intro j hj
          have hj' := List.mem_range'_1.1 hj
          have : ¬ (j = n) := by omega
          simp [this]
        simp only [List.contains_cons, BEq.rfl, Bool.true_or, cond_true, List.foldl_cons]
        rw [← this]
        congr 1
      · have h3 := h1 n (by simp)
        have hni : (n :: N).contains i = false := by
          simp only [List.contains_eq_mem, decide_eq_false_iff_not, List.mem_cons, not_or]
          exact ⟨fun q => hn q.symm, fun q => by have := hp.1 i q; omega⟩
        rw [hni]
        simp only [cond_false]
        exact spans_bits k (i + 1) (n :: N) acc (fun m hm => by
          rcases List.mem_cons.1 hm with rfl | hm
          · omega
          · have := hp.1 m hm; omega) (fun m hm => by have := h2 m hm; omega) (List.pairwise_cons.2 hp)
theorem spans_of {N : List Nat} (h2 : ∀ n ∈ N, n < 4096) (hp : N.Pairwise (· < ·)) : spansC (bitsL N) 0 [] = some (N.foldl spanStep []) := by
  unfold bitsL
  rw [List.range_eq_range']
  exact spans_bits 4096 0 N [] (fun _ _ => Nat.zero_le _) (fun n hn => by have := h2 n hn; omega) hp
end Go.Am
/-
  THE SECTORS IN A STATE, for the machine of the kernel.
-/
set_option linter.unusedVariables false
set_option linter.unusedSimpArgs false
namespace Go.Am
/-- One number more, and on. -/
noncomputable def spanK {β : Type} (acc : List (Nat × Nat)) (n : Nat) (k : List (Nat × Nat) → β) : β :=
  match acc with
  | (s, l) :: r => cnd (Nat.beq (Nat.add s l) n) (forceN (Nat.succ l) fun l => k ((s, l) :: r)) (k ((n, 1) :: (s, l) :: r))
  | [] => k [(n, 1)]
theorem spanK_eq {β : Type} (acc : List (Nat × Nat)) (n : Nat) (k : List (Nat × Nat) → β) : spanK acc n k = k (spanStep acc n) := by
  cases acc with
  | nil => rfl
  | cons p r =>
    obtain ⟨s, l⟩ := p
    show cnd (Nat.beq (s + l) n) (forceN (Nat.succ l) fun l => k ((s, l) :: r)) (k ((n, 1) :: (s, l) :: r)) = k (cond (Nat.beq (s + l) n) ((s, l + 1) :: r) ((n, 1) :: (s, l) :: r))
    rw [cnd_eq, forceN_eq]
    cases Nat.beq (s + l) n <;> rfl
/-- The cells from off on, k of them, the first of them the i-th: how many are in the state s, and their spans. -/
noncomputable def allT (t : Tr Value) (s : Nat) : Nat → Nat → Nat → Nat → List (Nat × Nat) → Option (Nat × List (Nat × Nat))
  | 0, _, _, c, acc => some (c, acc)
  | k + 1, off, i, c, acc => forceN off fun off => forceN i fun i => Tr.cellK t off fun v => onP (asNat v) fun kd x => cnd (Nat.beq (kNum kd) 4)
      (cnd (Nat.beq x s) (forceN (Nat.succ c) fun c => spanK acc i fun acc => allT t s k (Nat.succ off) (Nat.succ i) c acc) (allT t s k (Nat.succ off) (Nat.succ i) c acc)) none
noncomputable def spansF (el : TypeId) (acc : List (Nat × Nat)) (tr : Tr FObj) (n : Nat) : Value × FH :=
  match acc with
  | [] => (.slice none 0 0, ⟨tr, n⟩)
  | x :: r => (.slice (some ⟨n + 2 * r.length + 1, 0, none⟩) (r.length + 1) openCap, ⟨tr.set (n + 2 * r.length + 1) (.cells (Tr.nil.setL 0 (flat (x :: r))) (2 * (r.length + 1)) el false), n + 2 * r.length + 2⟩)
noncomputable def fAll (el : TypeId) : List Value → FH → Option (Value × FH)
  | [.pointer (some ⟨b, off, none⟩), .int .u8 (.ofNat s)], h =>
    match h.get b with
    | some (.cells t m _ _) =>
      match allT t s 1024 off 0 0 [] with
      | some (c, acc) => cond (Nat.ble (off + 1024) m && Nat.blt b h.next) (some (spansF el acc h.tr (h.next + 2 * c + 1))) none
      | none => none
    | _ => none
  | _, _ => none
theorem foldl_snoc (N : List Nat) (i : Nat) : (N ++ [i]).foldl spanStep [] = spanStep (N.foldl spanStep []) i := by simp
theorem allT_C {t : Tr Value} {s : Nat} : ∀ (k off i c : Nat) (acc : List (Nat × Nat)) (N : List Nat) (c' : Nat) (acc' : List (Nat × Nat)), allT t s k off i c acc = some (c', acc') → N.length = c → N.foldl spanStep [] = acc → (∀ n ∈ N, n < i) → N.Pairwise (· < ·) →
    ∃ N', allC (t.subL off k) s i N = some N' ∧ N'.length = c' ∧ N'.foldl spanStep [] = acc' ∧ (∀ n ∈ N', n < i + k) ∧ N'.Pairwise (· < ·)
  | 0, off, i, c, acc, N, c', acc', h, h1, h2, h3, h4 => by
    simp only [allT, Option.some.injEq, Prod.mk.injEq] at h
    obtain ⟨rfl, rfl⟩ := h
    exact ⟨N, rfl, h1, h2, h3, h4⟩
  | k + 1, off, i, c, acc, N, c', acc', h, h1, h2, h3, h4 => by
    unfold allT at h
    rw [forceN_eq, forceN_eq, Tr.cellK_cell] at h
    obtain ⟨kd, x, g1, g2⟩ := onP_some h
    obtain ⟨g3, g4⟩ := cnd_some' g2
    have hv := asNat_some g1
    have hkd : kd = .u8 := kNum_inj (k' := .u8) g3
    subst hkd
    rw [cnd_eq] at g4
    have hc : t.subL off (k + 1) = .int .u8 (.ofNat x) :: t.subL (off + 1) k := by
      simp only [Tr.subL, Tr.cellK_cell, hv]
    cases hx : Nat.beq x s with
    | true =>
      rw [hx, cond_true, forceN_eq, spanK_eq] at g4
      obtain ⟨N', e1, e2, e3, e4, e5⟩ := allT_C k (off + 1) (i + 1) (c + 1) _ (N ++ [i]) c' acc' g4 (by simp [h1]) (by rw [foldl_snoc, h2]) (fun n hn => by
        rcases List.mem_append.1 hn with q | q
        · have := h3 n q; omega
        · simp only [List.mem_singleton] at q; omega) (List.pairwise_append.2 ⟨h4, List.pairwise_singleton _ _, fun a ha b hb => by
          simp only [List.mem_singleton] at hb
          have := h3 a ha
          omega⟩)
      refine ⟨N', ?_, e2, e3, fun n hn => by have := e4 n hn; omega, e5⟩
      rw [hc]
      simp only [allC, hx, cond_true]
      exact e1
    | false =>
      rw [hx, cond_false] at g4
      obtain ⟨N', e1, e2, e3, e4, e5⟩ := allT_C k (off + 1) (i + 1) c _ N c' acc' g4 h1 h2 (fun n hn => by have := h3 n hn; omega) h4
      refine ⟨N', ?_, e2, e3, fun n hn => by have := e4 n hn; omega, e5⟩
      rw [hc]
      simp only [allC, hx, cond_false]
      exact e1
theorem spansF_abs (el : TypeId) (acc : List (Nat × Nat)) (tr : Tr FObj) (n : Nat) : spansR el acc (tr.map FObj.abs) n = ((spansF el acc tr n).1, (spansF el acc tr n).2.abs) := by
  cases acc with
  | nil => rfl
  | cons x r =>
    simp only [spansR, spansF]
    have hl : toL (Tr.nil.setL 0 (flat (x :: r))) (2 * (r.length + 1)) = flat (x :: r) := by
      have h1 := flat_len (x :: r)
      simp only [List.length_cons] at h1
      have := toL_ofList (flat (x :: r))
      rw [h1] at this
      exact this
    have : (FH.mk (tr.set (n + 2 * r.length + 1) (.cells (Tr.nil.setL 0 (flat (x :: r))) (2 * (r.length + 1)) el false)) (n + 2 * r.length + 2)).abs = ⟨(tr.map FObj.abs).set (n + 2 * r.length + 1) (.cells (flat (x :: r)) el false), n + 2 * r.length + 2⟩ := by
      show AH.mk (Tr.map FObj.abs (tr.set _ _)) _ = _
      rw [Tr.map_set]
      simp only [FObj.abs, hl]
    rw [this]
theorem fAll_ok {el : TypeId} {args : List Value} {h h' : FH} {v : Value} (hs : fAll el args h = some (v, h')) : xAll el args h.abs = some (v, h'.abs) ∧ h.next ≤ h'.next := by
  unfold fAll at hs
  split at hs
  rotate_left
  · simp at hs
  rename_i b off s
  split at hs
  rotate_left
  · simp at hs
  rename_i t m e ro hg
  split at hs
  rotate_left
  · simp at hs
  rename_i c acc hall
  obtain ⟨h1, h2⟩ := cond_some hs
  have h1' := h1
  simp only [Bool.and_eq_true] at h1
  have hle := Nat.le_of_ble_eq_true h1.1
  obtain ⟨N', e1, e2, e3, e4, e5⟩ := allT_C 1024 off 0 0 [] [] c acc hall rfl rfl (by simp) .nil
  rw [subL_toL hle] at e1
  have hsp := spans_of (N := N') (fun n hn => by have := e4 n hn; omega) e5
  rw [e3] at hsp
  have hpair : spansF el acc h.tr (h.next + 2 * c + 1) = (v, h') := h2
  constructor
  · simp only [xAll, FH.abs_get, hg, Option.map_some, FObj.abs, length_toL, e1, h1', cond_true]
    have : (Nat.ble (off + 1024) m && Nat.blt b h.abs.next) = true := h1'
    rw [this]
    simp only [cond_true, hsp]
    have h3 := spansF_abs el acc h.tr (h.next + 2 * c + 1)
    rw [hpair] at h3
    rw [e2]
    exact congrArg some h3
  · have : h' = (spansF el acc h.tr (h.next + 2 * c + 1)).2 := by rw [hpair]
    rw [this]
    cases acc with
    | nil => simp only [spansF]; omega
    | cons x r => simp only [spansF]; omega
end Go.Am
/-
  THE SPANS OF BITS AND A SECTOR'S STATE, for the machine of the kernel.
-/
set_option linter.unusedVariables false
set_option linter.unusedSimpArgs false
namespace Go.Am
noncomputable def spansT (t : Tr Value) : Nat → Nat → Nat → List (Nat × Nat) → Option (List (Nat × Nat))
  | 0, _, _, acc => some acc
  | k + 1, off, n, acc => forceN off fun off => forceN n fun n => Tr.cellK t off fun v => onO1 (asBool v) fun b =>
      cnd b (spanK acc n fun acc => spansT t k (Nat.succ off) (Nat.succ n) acc) (spansT t k (Nat.succ off) (Nat.succ n) acc)
theorem spansT_C {t : Tr Value} : ∀ (k off n : Nat) (acc acc' : List (Nat × Nat)), spansT t k off n acc = some acc' → spansC (t.subL off k) n acc = some acc'
  | 0, off, n, acc, acc', h => by simpa [spansT, Tr.subL, spansC] using h
  | k + 1, off, n, acc, acc', h => by
    unfold spansT at h
    rw [forceN_eq, forceN_eq, Tr.cellK_cell] at h
    obtain ⟨b, g1, g2⟩ := onO1_some h
    have hv := asBool_some g1
    rw [cnd_eq] at g2
    simp only [Tr.subL, Tr.cellK_cell, hv, spansC]
    cases b with
    | true =>
      rw [cond_true, spanK_eq] at g2
      exact spansT_C k (off + 1) (n + 1) _ acc' g2
    | false =>
      rw [cond_false] at g2
      exact spansT_C k (off + 1) (n + 1) _ acc' g2
noncomputable def fSpans (el : TypeId) : List Value → FH → Option (Value × FH)
  | [.pointer (some ⟨b, off, none⟩)], h =>
    match h.get b with
    | some (.cells t m _ _) =>
      match spansT t 4096 off 0 [] with
      | some acc => cond (Nat.beq off 0 && Nat.ble 4096 m && Nat.blt b h.next) (some (spansF el acc h.tr h.next)) none
      | none => none
    | _ => none
  | _, _ => none
theorem spansF_next (el : TypeId) (acc : List (Nat × Nat)) (tr : Tr FObj) (n : Nat) : n ≤ (spansF el acc tr n).2.next := by
  cases acc with
  | nil => exact Nat.le_refl _
  | cons x r => simp only [spansF]; omega
theorem fSpans_ok {el : TypeId} {args : List Value} {h h' : FH} {v : Value} (hs : fSpans el args h = some (v, h')) : xSpans el args h.abs = some (v, h'.abs) ∧ h.next ≤ h'.next := by
  unfold fSpans at hs
  split at hs
  rotate_left
  · simp at hs
  rename_i b off
  split at hs
  rotate_left
  · simp at hs
  rename_i t m e ro hg
  split at hs
  rotate_left
  · simp at hs
  rename_i acc hacc
  obtain ⟨h1, h2⟩ := cond_some hs
  have h1' := h1
  simp only [Bool.and_eq_true] at h1
  have hoff := Nat.eq_of_beq_eq_true h1.1.1
  subst hoff
  have hle := Nat.le_of_ble_eq_true h1.1.2
  have hc := spansT_C _ _ _ _ _ hacc
  rw [subL_toL (t := t) (off := 0) (k := 4096) (n := m) (by omega)] at hc
  have hpair : spansF el acc h.tr h.next = (v, h') := h2
  constructor
  · simp only [xSpans, FH.abs_get, hg, Option.map_some, FObj.abs, length_toL, hc]
    have : (Nat.beq 0 0 && Nat.ble 4096 m && Nat.blt b h.abs.next) = true := h1'
    rw [this]
    simp only [cond_true]
    have h3 := spansF_abs el acc h.tr h.next
    rw [hpair] at h3
    have h4 : spansR el acc h.abs.tr h.abs.next = (v, h'.abs) := h3
    rw [← h4]
    cases acc <;> rfl
  · have : h' = (spansF el acc h.tr h.next).2 := by rw [hpair]
    rw [this]
    exact spansF_next _ _ _ _
noncomputable def fIs : List Value → FH → Option (Value × FH)
  | [.pointer (some ⟨b, off, none⟩), .int .i64 (.ofNat i), .int .u8 (.ofNat s)], h =>
    match h.get b with
    | some (.cells t m _ _) => cond (Nat.blt i 1024 && Nat.blt (off + i) m) (Tr.cellK t (off + i) fun v => onP (asNat v) fun k x => cnd (Nat.beq (kNum k) 4) (Bool.rec (motive := fun _ => Option (Value × FH)) (some (.bool false, h)) (some (.bool true, h)) (Nat.beq x s)) none) none
    | _ => none
  | _, _ => none
theorem fIs_ok {args : List Value} {h h' : FH} {v : Value} (hs : fIs args h = some (v, h')) : xIs args h.abs = some (v, h'.abs) ∧ h.next ≤ h'.next := by
  unfold fIs at hs
  split at hs
  rotate_left
  · simp at hs
  rename_i b off i s
  split at hs
  rotate_left
  · simp at hs
  rename_i t m e ro hg
  obtain ⟨h1, h2⟩ := cond_some' hs
  simp only [Bool.and_eq_true, Nat.blt_eq] at h1
  rw [Tr.cellK_cell] at h2
  obtain ⟨k, x, g1, g2⟩ := onP_some h2
  obtain ⟨g3, g4⟩ := cnd_some' g2
  have hv := asNat_some g1
  have hkd : k = .u8 := kNum_inj (k' := .u8) g3
  subst hkd
  have hcell : (toL t m)[off + i]? = some (.int .u8 (.ofNat x)) := by rw [get_toL, if_pos h1.2, hv]
  have hb : Nat.blt i 1024 = true := by rw [Nat.blt_eq]; exact h1.1
  simp only [xIs, FH.abs_get, hg, Option.map_some, FObj.abs, hcell, hb, cond_true]
  cases hx : Nat.beq x s with
  | true =>
    rw [hx] at g4
    simp only [Option.some.injEq, Prod.mk.injEq] at g4
    obtain ⟨rfl, rfl⟩ := g4
    exact ⟨rfl, Nat.le_refl _⟩
  | false =>
    rw [hx] at g4
    simp only [Option.some.injEq, Prod.mk.injEq] at g4
    obtain ⟨rfl, rfl⟩ := g4
    exact ⟨rfl, Nat.le_refl _⟩
end Go.Am
