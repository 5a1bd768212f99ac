/-
  THE SUM OF BYTES: what is told of it, for both machines, and what its operations give.
-/
import Derived.Test.YtkggibodlljkcaiGreatAm5d
import Derived.Test.YtkggibodlljkcaiGreatAm4c
set_option linter.unusedVariables false
set_option linter.unusedSimpArgs false
namespace Go.Am
def crcStep (x : Nat) : Nat := cond (Nat.beq (Nat.land x 1) 1) (Nat.xor (Nat.shiftRight x 1) 2197175160) (Nat.shiftRight x 1)
def crcs : Nat → Nat → Nat
  | 0, x => x
  | k + 1, x => crcs k (crcStep x)
def bytesC : List Value → Nat → Option Nat
  | [], x => some x
  | .int .u8 (.ofNat c) :: r, x => cond (Nat.blt c 256 && Nat.blt (crcs 8 (Nat.xor x c)) 4294967296) (bytesC r (crcs 8 (Nat.xor x c))) none
  | _, _ => none
noncomputable def bytesT (t : Tr Value) : Nat → Nat → Nat → Option Nat
  | 0, off, x => some x
  | n + 1, off, x => match t.cell off with | .int .u8 (.ofNat c) => cond (Nat.blt c 256 && Nat.blt (crcs 8 (Nat.xor x c)) 4294967296) (bytesT t n (off + 1) (crcs 8 (Nat.xor x c))) none | _ => none
def xMore : List Value → AH → Option (Value × AH)
  | [.int .u32 (.ofNat s), .slice (some ⟨b, off, none⟩) n c], h =>
    match h.get b with
    | some (.cells cs _ _) => cond (Nat.blt s 4294967296 && Nat.ble (off + n) cs.length && Nat.blt n 9223372036854775807) (match bytesC ((cs.drop off).take n) (Nat.xor s 4294967295) with | some r => some (.int .u32 (.ofNat (Nat.xor r 4294967295)), h) | none => none) none
    | _ => none
  | _, _ => none
noncomputable def fMore : List Value → FH → Option (Value × FH)
  | [.int .u32 (.ofNat s), .slice (some ⟨b, off, none⟩) n c], h =>
    match h.get b with
    | some (.cells t m _ _) => cond (Nat.blt s 4294967296 && Nat.ble (off + n) m && Nat.blt n 9223372036854775807) (match bytesT t n off (Nat.xor s 4294967295) with | some r => some (.int .u32 (.ofNat (Nat.xor r 4294967295)), h) | none => none) none
    | _ => none
  | _, _ => none
theorem bytesT_C {t : Tr Value} : ∀ (n off x r : Nat), bytesT t n off x = some r → bytesC (t.subL off n) x = some r
  | 0, off, x, r, h => by simpa [bytesT, Tr.subL, bytesC] using h
  | n + 1, off, x, r, h => by
    unfold bytesT at h
    split at h
    · rename_i c hc
      obtain ⟨h1, h2⟩ := cond_some' h
      simp only [Tr.subL, Tr.cellK_cell, hc, bytesC, h1, cond_true]
      exact bytesT_C n _ _ _ h2
    · simp at h
theorem fMore_ok {args : List Value} {h h' : FH} {v : Value} (hs : fMore args h = some (v, h')) : xMore args h.abs = some (v, h'.abs) ∧ h.next ≤ h'.next := by
  unfold fMore at hs
  split at hs
  rotate_left
  · simp at hs
  rename_i s b off n c
  split at hs
  rotate_left
  · simp at hs
  rename_i t m e ro hg
  obtain ⟨h1, h2⟩ := cond_some' hs
  have h1' := h1
  simp only [Bool.and_eq_true] at h1
  have hle := Nat.le_of_ble_eq_true h1.1.2
  split at h2
  rotate_left
  · simp at h2
  rename_i r hr
  simp only [Option.some.injEq, Prod.mk.injEq] at h2
  obtain ⟨rfl, rfl⟩ := h2
  refine ⟨?_, Nat.le_refl _⟩
  have hb := bytesT_C _ _ _ _ hr
  rw [subL_toL hle] at hb
  simp only [xMore, FH.abs_get, hg, Option.map_some, FObj.abs, length_toL, h1', cond_true, hb]
theorem crcStep_lt {x : Nat} (h : x < 4294967296) : crcStep x < 4294967296 := by
  have h1 : Nat.shiftRight x 1 < 4294967296 := by
    show x >>> 1 < _
    rw [Nat.shiftRight_eq_div_pow]
    omega
  unfold crcStep
  cases Nat.beq (Nat.land x 1) 1
  · exact h1
  · exact Nat.xor_lt_two_pow (n := 32) h1 (by decide)
section
variable {P : Program}
theorem bv_and32 {x y : Nat} (hx : x < 4294967296) (hy : y < 4294967296) : IntKind.u32.wrap (BitVec.ofInt IntKind.u32.bits (x : Int) &&& BitVec.ofInt IntKind.u32.bits (y : Int)).toNat = ((x &&& y : Nat) : Int) := by
  have h1 : (BitVec.ofInt IntKind.u32.bits (x : Int) &&& BitVec.ofInt IntKind.u32.bits (y : Int)).toNat = x &&& y := by
    rw [BitVec.toNat_and, BitVec.ofInt_natCast, BitVec.ofInt_natCast, BitVec.toNat_ofNat, BitVec.toNat_ofNat]
    show (x % 2 ^ 32) &&& (y % 2 ^ 32) = _
    rw [Nat.mod_eq_of_lt hx, Nat.mod_eq_of_lt hy]
  rw [h1]
  have h2 : x &&& y ≤ x := Nat.and_le_left
  simp [IntKind.wrap, IntKind.bits, IntKind.signed]
  omega
theorem bv_xor32 {x y : Nat} (hx : x < 4294967296) (hy : y < 4294967296) : IntKind.u32.wrap (BitVec.ofInt IntKind.u32.bits (x : Int) ^^^ BitVec.ofInt IntKind.u32.bits (y : Int)).toNat = ((x ^^^ y : Nat) : Int) := by
  have h1 : (BitVec.ofInt IntKind.u32.bits (x : Int) ^^^ BitVec.ofInt IntKind.u32.bits (y : Int)).toNat = x ^^^ y := by
    rw [BitVec.toNat_xor, BitVec.ofInt_natCast, BitVec.ofInt_natCast, BitVec.toNat_ofNat, BitVec.toNat_ofNat]
    show (x % 2 ^ 32) ^^^ (y % 2 ^ 32) = _
    rw [Nat.mod_eq_of_lt hx, Nat.mod_eq_of_lt hy]
  rw [h1]
  have h2 : x ^^^ y < 2 ^ 32 := Nat.xor_lt_two_pow hx hy
  simp [IntKind.wrap, IntKind.bits, IntKind.signed]
  omega
theorem aBin_and32 {t : TypeId} {x : Nat} (hx : x < 4294967296) : aBin P .and t (.int .u32 (x : Int)) (.int .u32 1) = some (.int .u32 ((x &&& 1 : Nat) : Int)) := by
  have := bv_and32 hx (show 1 < 4294967296 by decide)
  simp only [aBin, aInt, if_true]
  exact congrArg (fun z => some (Value.int .u32 z)) this
theorem aBin_xor32 {t : TypeId} {x y : Nat} (hx : x < 4294967296) (hy : y < 4294967296) : aBin P .xor t (.int .u32 (x : Int)) (.int .u32 (y : Int)) = some (.int .u32 ((x ^^^ y : Nat) : Int)) := by
  have := bv_xor32 hx hy
  simp only [aBin, aInt, if_true]
  exact congrArg (fun z => some (Value.int .u32 z)) this
theorem aBin_xorP {t : TypeId} {x : Nat} (hx : x < 4294967296) : aBin P .xor t (.int .u32 (x : Int)) (.int .u32 2197175160) = some (.int .u32 ((x ^^^ 2197175160 : Nat) : Int)) := aBin_xor32 (y := 2197175160) hx (by decide)
theorem aBin_shr32 {t : TypeId} {x : Nat} : aBin P .shr t (.int .u32 (x : Int)) (.int .u64 1) = some (.int .u32 ((x >>> 1 : Nat) : Int)) := by
  rw [Nat.shiftRight_eq_div_pow]
  have e1 : IntKind.u32.bits = 32 := rfl
  simp only [aBin, aShift]
  rw [if_neg (by decide)]
  rw [e1]
  have : min ((1 : Int).toNat) 32 = 1 := by decide
  simp only [this]
  congr 2
  rw [Int.fdiv_eq_ediv_of_nonneg _ (by decide)]
  norm_cast
theorem aUn_xor32 {x : Nat} (hx : x < 4294967296) : aUn .xor (.int .u32 (x : Int)) = some (.int .u32 ((x ^^^ 4294967295 : Nat) : Int)) := by
  have := bv_xor32 (x := 4294967295) (by decide) hx
  rw [Nat.xor_comm] at this
  simp only [aUn]
  exact congrArg (fun z => some (Value.int .u32 z)) this
end
theorem tells_of {P : Program} {K : Xs} {fa : FuncId} {g : List Value → AH → Option (Value × AH)} (hk : K fa = none)
    (T : ∀ args h v h', (∀ b o, h.get b = some o → b < h.next) → g args h = some (v, h') → Wf P K fa args h (fun v1 h1 => v1 = v ∧ (∀ b o, h'.get b = some o → h1.get b = some o) ∧ h1.next ≤ h'.next)) : Tells P K fa g := by
  intro args h v h' hwf hg
  obtain ⟨n, v1, h1, h2, rfl, h3, h4⟩ := T args h v h' hwf hg
  rw [callX_body hk] at h2
  exact ⟨n, h1, h2, h3, h4⟩
end Go.Am
