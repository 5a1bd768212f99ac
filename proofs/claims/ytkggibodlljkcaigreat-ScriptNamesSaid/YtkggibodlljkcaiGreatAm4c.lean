/-
  CONTRACTS IN THE ABSTRACT MACHINE: memory, cell by cell and part by part.
-/
import Derived.Test.YtkggibodlljkcaiGreatAm4b
set_option linter.unusedVariables false
set_option linter.unusedSimpArgs false
namespace Go.Am
section
variable {P : Program} {K : Xs} {e : Env} {h : AH}
/-- The cells of a block, if there are such. -/
def cellsAt (h : AH) (b : Nat) : Option (List Value × TypeId × Bool) := match h.get b with | some (.cells cs e ro) => some (cs, e, ro) | _ => none
theorem take_put_drop {α : Type} (l : List α) (i : Nat) (v : α) (hi : i < l.length) : l.take i ++ [v] ++ l.drop (i + 1) = l.set i v := by
  rw [List.set_eq_take_append_cons_drop, if_pos hi]
  simp
/-- A value of one cell. -/
def oneV : Value → Bool
  | .agg _ | .tuple _ => false
  | _ => true
theorem cells_oneV {v : Value} (hv : oneV v = true) : v.cells = #[v] := by cases v <;> first | rfl | (simp [oneV] at hv)
def load1 (y : Option AObj) (off : Nat) : Option Value := match y with | some (.cells cs _ _) => cs[off]? | _ => none
/-- A cell, by its place. -/
def cellAt (cs : List Value) (i : Nat) : Option Value := cs[i]?
@[simp] theorem cellAt_zero {v : Value} {l : List Value} : cellAt (v :: l) 0 = some v := rfl
@[simp] theorem cellAt_succ {v : Value} {l : List Value} {n : Nat} : cellAt (v :: l) (n + 1) = cellAt l n := by simp [cellAt]
@[simp] theorem load1_cells {cs : List Value} {e : TypeId} {ro : Bool} {off : Nat} : load1 (some (.cells cs e ro)) off = cellAt cs off := rfl
def loadN (y : Option AObj) (off n : Nat) : Option Value := match y with | some (.cells cs _ _) => if off + n ≤ cs.length then some (.agg ((cs.drop off).take n).toArray) else none | _ => none
@[simp] theorem loadN_cells {cs : List Value} {e : TypeId} {ro : Bool} {off n : Nat} : loadN (some (.cells cs e ro)) off n = if off + n ≤ cs.length then some (.agg ((cs.drop off).take n).toArray) else none := rfl
@[simp] theorem aLoad_one {t : TypeId} {b off : Nat} (ht : aggT P t = some false) : aLoad P h t (.pointer (some ⟨b, off, none⟩)) = load1 (h.get b) off := by
  simp only [aLoad, load1]
  cases hb : h.get b with
  | none => rfl
  | some o => cases o <;> simp [ht]
@[simp] theorem aLoad_agg {t : TypeId} {b off : Nat} (ht : aggT P t = some true) : aLoad P h t (.pointer (some ⟨b, off, none⟩)) = loadN (h.get b) off (P.cellsOf t) := by
  simp only [aLoad, loadN]
  cases hb : h.get b with
  | none => rfl
  | some o => cases o <;> simp [ht]
def store1 (h : AH) (b off : Nat) (v : Value) (y : Option AObj) : Option AH := match y with | some (.cells cs e false) => if off < cs.length then some (h.set b (.cells (cs.set off v) e false)) else none | _ => none
@[simp] theorem store1_cells {cs : List Value} {e : TypeId} {b off : Nat} {v : Value} : store1 h b off v (some (.cells cs e false)) = if off < cs.length then some (h.set b (.cells (cs.set off v) e false)) else none := rfl
theorem aStore_one {t : TypeId} {b off : Nat} {v : Value} (h1 : P.cellsOf t = 1) (h2 : (P.info? t).isSome = true) (hv : oneV v = true) : aStore P h t (.pointer (some ⟨b, off, none⟩)) v = store1 h b off v (h.get b) := by
  have hc := cells_oneV hv
  have key : aStoreCells h b off [v] = store1 h b off v (h.get b) := by
    simp only [aStoreCells, store1]
    cases hb : h.get b with
    | none => rfl
    | some o =>
      cases o with
      | cells cs e ro =>
        cases ro with
        | true => rfl
        | false =>
          simp only [List.length_singleton]
          by_cases hl : off < cs.length
          · rw [if_pos hl, if_pos (by omega), take_put_drop _ _ _ hl]
          · rw [if_neg hl, if_neg (by omega)]
      | _ => rfl
  unfold aStore
  cases v <;> first | (simp [oneV] at hv; done) | (simp [hc, h1, h2]; exact key)
@[simp] theorem aStore_int {t : TypeId} {b off : Nat} {k : IntKind} {n : Int} (h1 : P.cellsOf t = 1) (h2 : (P.info? t).isSome = true) : aStore P h t (.pointer (some ⟨b, off, none⟩)) (.int k n) = store1 h b off (.int k n) (h.get b) := aStore_one h1 h2 rfl
@[simp] theorem aStore_bool {t : TypeId} {b off : Nat} {x : Bool} (h1 : P.cellsOf t = 1) (h2 : (P.info? t).isSome = true) : aStore P h t (.pointer (some ⟨b, off, none⟩)) (.bool x) = store1 h b off (.bool x) (h.get b) := aStore_one h1 h2 rfl
@[simp] theorem aStore_ptr {t : TypeId} {b off : Nat} {x : Option Addr} (h1 : P.cellsOf t = 1) (h2 : (P.info? t).isSome = true) : aStore P h t (.pointer (some ⟨b, off, none⟩)) (.pointer x) = store1 h b off (.pointer x) (h.get b) := aStore_one h1 h2 rfl
@[simp] theorem aStore_slice {t : TypeId} {b off : Nat} {x : Option Addr} {n c : Nat} (h1 : P.cellsOf t = 1) (h2 : (P.info? t).isSome = true) : aStore P h t (.pointer (some ⟨b, off, none⟩)) (.slice x n c) = store1 h b off (.slice x n c) (h.get b) := aStore_one h1 h2 rfl
def storeN (h : AH) (b off : Nat) (vs : List Value) (y : Option AObj) : Option AH := match y with | some (.cells cs e false) => if off + vs.length ≤ cs.length then some (h.set b (.cells (cs.take off ++ vs ++ cs.drop (off + vs.length)) e false)) else none | _ => none
@[simp] theorem storeN_cells {cs : List Value} {e : TypeId} {b off : Nat} {vs : List Value} : storeN h b off vs (some (.cells cs e false)) = if off + vs.length ≤ cs.length then some (h.set b (.cells (cs.take off ++ vs ++ cs.drop (off + vs.length)) e false)) else none := rfl
theorem aStoreCells_eq {b off : Nat} {vs : List Value} : aStoreCells h b off vs = storeN h b off vs (h.get b) := by
  simp only [aStoreCells, storeN]
  cases hb : h.get b with
  | none => rfl
  | some o => cases o <;> first | rfl | (rename_i ro; cases ro <;> rfl)
@[simp] theorem aStore_agg {t : TypeId} {b off : Nat} {vs : Array Value} (h2 : (P.info? t).isSome = true) : aStore P h t (.pointer (some ⟨b, off, none⟩)) (.agg vs) = if vs.size = P.cellsOf t then storeN h b off vs.toList (h.get b) else none := by
  simp [aStore, aStoreCells_eq, h2, Value.cells]
def idxA (P : Program) (b off : Nat) (j : Int) : Option TypeDesc → Option Value
  | some (.array n elem) => if 0 ≤ j ∧ j < n ∧ (P.info? elem).isSome = true then some (.pointer (some ⟨b, off + j.toNat * P.cellsOf elem, none⟩)) else none
  | _ => none
@[simp] theorem idxA_arr {b off n : Nat} {j : Int} {elem : TypeId} : idxA P b off j (some (.array n elem)) = if 0 ≤ j ∧ j < n ∧ (P.info? elem).isSome = true then some (.pointer (some ⟨b, off + j.toNat * P.cellsOf elem, none⟩)) else none := rfl
@[simp] theorem aIndexAddr_arr {t : TypeId} {b off : Nat} {k : IntKind} {j : Int} : aIndexAddr P t (.pointer (some ⟨b, off, none⟩)) (.int k j) = idxA P b off j (P.underlying t) := by
  unfold aIndexAddr idxA
  cases P.underlying t with
  | none => rfl
  | some d => cases d <;> rfl
def idxS (P : Program) (b off n : Nat) (j : Int) : Option TypeDesc → Option Value
  | some (.slice elem) => if 0 ≤ j ∧ j < n ∧ (P.info? elem).isSome = true then some (.pointer (some ⟨b, off + j.toNat * P.cellsOf elem, none⟩)) else none
  | _ => none
@[simp] theorem idxS_slice {b off n : Nat} {j : Int} {elem : TypeId} : idxS P b off n j (some (.slice elem)) = if 0 ≤ j ∧ j < n ∧ (P.info? elem).isSome = true then some (.pointer (some ⟨b, off + j.toNat * P.cellsOf elem, none⟩)) else none := rfl
@[simp] theorem aIndexAddr_slice {t : TypeId} {b off n c : Nat} {k : IntKind} {j : Int} : aIndexAddr P t (.slice (some ⟨b, off, none⟩) n c) (.int k j) = idxS P b off n j (P.underlying t) := by
  unfold aIndexAddr idxS
  cases P.underlying t with
  | none => rfl
  | some d => cases d <;> rfl
@[simp] theorem aLen_slice {t elem : TypeId} {x : Option Addr} {n c : Nat} (h1 : P.underlying t = some (.slice elem)) : aLen P h t (.slice x n c) = some (.int .i64 n) := by simp [aLen, h1]
@[simp] theorem aBuiltin_len {t : TypeId} {x : Value} : aBuiltin P h .len #[t] [x] = (aLen P h t x).map (·, h) := by simp [aBuiltin]
/-- Of the slots only some are kept in mind. -/
theorem Wc_gen {rd : Option Nat} {c : Code} {Q : AX → Env → AH → Prop} (A : Env → Prop) (hA : A e) (key : ∀ e2, A e2 → Wc P K rd c e2 h Q) : Wc P K rd c e h Q := key e hA
theorem Wj_gen {ops : Array Oper} {js : List Nat} {Q : Env → AH → Prop} (A : Env → Prop) (hA : A e) (key : ∀ e2, A e2 → Wj P K ops js e2 h Q) : Wj P K ops js e h Q := key e hA
@[simp] theorem aBuiltin_append {st xt : TypeId} {s x : Value} {elem : TypeId} (hx : P.underlying xt = some (.slice elem)) : aBuiltin P h .append #[st, xt] [s, x] = aAppend P h st false s x := by simp [aBuiltin, hx]
theorem wrap_i64 {x : Int} (h1 : -9223372036854775808 ≤ x) (h2 : x ≤ 9223372036854775807) : IntKind.i64.wrap x = x := by
  simp [IntKind.wrap, IntKind.bits, IntKind.signed]
  omega
theorem wrap_u64 {x : Int} (h1 : 0 ≤ x) (h2 : x ≤ 18446744073709551615) : IntKind.u64.wrap x = x := by
  simp [IntKind.wrap, IntKind.bits, IntKind.signed]
  omega
theorem wrap_u8 {x : Int} (h1 : 0 ≤ x) (h2 : x ≤ 255) : IntKind.u8.wrap x = x := by
  simp [IntKind.wrap, IntKind.bits, IntKind.signed]
  omega
end
end Go.Am
