/-
  WHAT ARGUMENTS ARE: texts, rows of texts, sectors.
-/
import Derived.Test.YteblpmcekhcgiadCBlock
set_option linter.unusedVariables false
set_option linter.unusedSimpArgs false
set_option maxRecDepth 100000
namespace Go.Am
open Go.Proofs
theorem bytes_all : ∀ al : List Value, (∀ v ∈ al, ∃ m : Nat, v = .int .u8 m ∧ m < 256) → ∃ data : List Nat, al = natC .u8 data ∧ ∀ x ∈ data, x < 256
  | [], _ => ⟨[], rfl, by simp⟩
  | v :: al, h => by
    obtain ⟨m, rfl, hm⟩ := h v List.mem_cons_self
    obtain ⟨ds, rfl, hd⟩ := bytes_all al fun x hx => h x (List.mem_cons_of_mem _ hx)
    exact ⟨m :: ds, rfl, fun x hx => (List.mem_cons.1 hx).elim (fun z => by rw [z]; exact hm) (hd x)⟩
theorem u8_nat {m : Int} (h : (Lit.int .u8 m).wf = true) : ∃ k : Nat, m = k ∧ k < 256 := by
  simp [Lit.wf, IntKind.min, IntKind.max, IntKind.signed, IntKind.bits] at h
  exact ⟨m.toNat, by omega, by omega⟩
theorem self_sec : ∀ {s : List Nat} {X : Prop}, X → vSelfL (secC s) X
  | [], _, x => x
  | _ :: s, _, x => self_sec (s := s) x
section
variable {h : AH}
theorem rd_bytes {g n : Nat} {al : List Value} (r : RdL Try.prog (Rd Try.prog h (g + 1)) (List.replicate n 5) al) : ∃ data : List Nat, al = natC .u8 data ∧ data.length = n ∧ ∀ x ∈ data, x < 256 := by
  obtain ⟨hl, hi⟩ := r.rep
  have hc2 : Try.prog.cellsOf 5 = 1 := by simp
  rw [hc2, Nat.mul_one] at hl
  obtain ⟨data, rfl, hd⟩ := bytes_all al fun v hv => by
    obtain ⟨i, hil, rfl⟩ := List.mem_iff_getElem.1 hv
    have := hi i (by omega)
    rw [hc2, Nat.mul_one, drop_take_one hil] at this
    unfold Rd at this
    rw [Try.underlying5] at this
    obtain ⟨m, e, hw⟩ := this
    obtain ⟨k, rfl, hk⟩ := u8_nat hw
    exact ⟨k, by simpa using e, hk⟩
  exact ⟨data, rfl, by rw [natC_len] at hl; exact hl, hd⟩
/-- A text that is read. -/
def Text (h : AH) (p : Option Addr) (n : Nat) (data : List Nat) : Prop := (p = none ∨ ∃ b off, p = some ⟨b, off, none⟩) ∧ n = data.length ∧ n ≤ reachBytes ∧ Shows h p n 1 (natC .u8 data) ∧ ∀ x ∈ data, x < 256
theorem Text.old {h' : AH} {p : Option Addr} {n : Nat} {data : List Nat} (t : Text h p n data) (o : Old h h') : Text h' p n data := ⟨t.1, t.2.1, t.2.2.1, t.2.2.2.1.old o, t.2.2.2.2⟩
theorem rd_text {g : Nat} {v : Value} (r : Rd Try.prog h (g + 2) 22 [v]) : ∃ p n c data, v = .slice p n c ∧ Text h p n data := by
  unfold Rd at r
  rw [Try.underlying22] at r
  obtain ⟨p, n, c, al, e, hp, hn, hb, hs, hr⟩ := r
  have hc2 : Try.prog.cellsOf 5 = 1 := by simp
  have hb2 : Try.prog.bytesOf 5 = 1 := by kernel_rfl
  rw [hc2] at hs
  rw [hb2, Nat.mul_one] at hb
  obtain ⟨data, rfl, hl, hd⟩ := rd_bytes hr
  exact ⟨p, n, c, data, by simpa using e, hp, hl.symm, hb, hs, hd⟩
/-- A row of texts that is read. -/
def Texts (h : AH) (p : Option Addr) (n : Nat) (ds : List (List Nat)) : Prop := (p = none ∨ ∃ b off, p = some ⟨b, off, none⟩) ∧ n = ds.length ∧ ∃ cells, Shows h p n 1 cells ∧ ∀ (i : Nat) (hi : i < ds.length), ∃ p' n' c', cells[i]? = some (.slice p' n' c') ∧ Text h p' n' ds[i]
theorem Texts.old {h' : AH} {p : Option Addr} {n : Nat} {ds : List (List Nat)} (t : Texts h p n ds) (o : Old h h') : Texts h' p n ds := by
  obtain ⟨t1, t2, cells, t3, t4⟩ := t
  refine ⟨t1, t2, cells, t3.old o, fun i hi => ?_⟩
  obtain ⟨p', n', c', q1, q2⟩ := t4 i hi
  exact ⟨p', n', c', q1, q2.old o⟩
theorem list_of {α : Type} (Q : Nat → α → Prop) : ∀ n : Nat, (∀ i, i < n → ∃ a, Q i a) → ∃ l : List α, l.length = n ∧ ∀ (i : Nat) (hi : i < l.length), Q i l[i]
  | 0, _ => ⟨[], rfl, fun i hi => absurd hi (Nat.not_lt_zero _)⟩
  | n + 1, h => by
    obtain ⟨l, hl, hq⟩ := list_of Q n fun i hi => h i (by omega)
    obtain ⟨a, ha⟩ := h n (Nat.lt_succ_self _)
    refine ⟨l ++ [a], by simp [hl], fun i hi => ?_⟩
    rw [List.getElem_append]
    split
    · rename_i z; exact hq i z
    · rename_i z
      have : i = n := by simp at hi; omega
      subst this
      simpa using ha
theorem rd_sec {g : Nat} {v : Value} (r : RdV Try.prog h (g + 2) 46 v) : ∃ s, v = .agg (secC s).toArray ∧ Sec s := by
  unfold RdV at r
  rw [Try.underlying46] at r
  obtain ⟨cs, rfl, r⟩ := r
  unfold Rd at r
  rw [Try.underlying46] at r
  obtain ⟨data, rfl, hl, hd⟩ := rd_bytes r
  exact ⟨data, rfl, hl, hd⟩
theorem rd_int {g : Nat} {v : Value} (r : RdV Try.prog h (g + 1) 3 v) : ∃ n, v = .int .i64 n ∧ (Lit.int .i64 n).wf = true := by
  unfold RdV at r
  rw [Try.underlying3] at r
  unfold Rd at r
  rw [Try.underlying3] at r
  obtain ⟨n, e, hw⟩ := r
  exact ⟨n, by simpa using e, hw⟩
/-- A text of a row, where it lies. -/
theorem Texts.at {p : Option Addr} {n : Nat} {ds : List (List Nat)} (t : Texts h p n ds) {i : Nat} (hi : i < n) : ∃ b off, p = some ⟨b, off, none⟩ ∧ ∃ (hi' : i < ds.length), ∃ p' n' c', ld1 h b (off + i) = some (.slice p' n' c') ∧ Text h p' n' ds[i] := by
  obtain ⟨t1, t2, cells, t3, t4⟩ := t
  obtain ⟨b, off, hp, hld⟩ := t3.get hi
  obtain ⟨p', n', c', q1, q2⟩ := t4 i (by omega)
  exact ⟨b, off, hp, by omega, p', n', c', by rw [hld, q1], q2⟩
theorem Texts.at2 {g : AH} {p : Option Addr} {n : Nat} {ds : List (List Nat)} (t : Texts h p n ds) (o : Old h g) {i : Nat} (hi : i < n) : ∃ b off, p = some ⟨b, off, none⟩ ∧ ∃ (hi' : i < ds.length), ∃ p' n' c', ld1 g b (off + i) = some (.slice p' n' c') ∧ Text h p' n' ds[i] := by
  obtain ⟨t1, t2, cells, t3, t4⟩ := t
  obtain ⟨b, off, hp, hld⟩ := (t3.old o).get hi
  obtain ⟨p', n', c', q1, q2⟩ := t4 i (by omega)
  exact ⟨b, off, hp, by omega, p', n', c', by rw [hld, q1], q2⟩
/-- A text is copied behind nothing. -/
theorem copyText {g g20 : AH} {p : Option Addr} {n c : Nat} {data : List Nat} (tx : Text h p n data) (o : Old h g) (e20 : g20 = g.alloc (.cells [] 5 false)) :
    ∃ p' c' g', aBuiltin Try.prog g20 .append #[22, 22] [.slice (some ⟨g.next, 0, none⟩) 0 0, .slice p n c] = some (.slice p' (0 + n) c', g') ∧ Old g g' ∧ Shows g' p' (0 + n) 1 (natC .u8 data) ∧ (p' = none ∨ ∃ b off, p' = some ⟨b, off, none⟩) ∧ ∀ a, p' = some a → g.next ≤ a.block := by
  have o20 := old_of_alloc e20
  obtain ⟨tx1, tx2, tx3, tx4, tx5⟩ := tx.old (o.trans o20)
  have hgl : Grow g.next g20 5 1 (some ⟨g.next, 0, none⟩) 0 0 [] := Grow.lit e20 rfl (Nat.le_refl _)
  obtain ⟨p21, c23, g24, k24, hg24, hob, -, -⟩ := hgl.append eBytes o20.1 (x := .slice p n c) (m := n) rfl (tx4.firstC tx1) tx4.1 (by simp only [reachBytes, roomMax] at *; omega) (by simp only [reachBytes] at *; omega) ⟨_, eBytes.1⟩
  exact ⟨p21, c23, g24, k24, (o20.toB (Nat.le_refl _)).trans hob, hg24.shows, hg24.form, fun a e => (hg24.block e).1⟩
end
end Go.Am
