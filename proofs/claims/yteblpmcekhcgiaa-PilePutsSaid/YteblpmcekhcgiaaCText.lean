/-
  WHAT ARGUMENTS ARE: texts, rows of texts, sectors.
-/
import Derived.Test.YteblpmcekhcgiaaCBlock
set_option linter.unusedVariables false
set_option linter.unusedSimpArgs false
set_option maxRecDepth 100000
namespace Go.Am
open Go.Proofs
theorem bytes_all : ∀ al : List Value, (∀ v ∈ al, ∃ m : Nat, v = .int .u8 m ∧ m < 256) → ∃ data : List Nat, al = natC .u8 data ∧ ∀ x ∈ data, x < 256
  | [], _ => ⟨[], rfl, by simp⟩
  | v :: al, h => by
    obtain ⟨m, rfl, hm⟩ := h v List.mem_cons_self
    obtain ⟨ds, rfl, hd⟩ := bytes_all al fun x hx => h x (List.mem_cons_of_mem _ hx)
    exact ⟨m :: ds, rfl, fun x hx => (List.mem_cons.1 hx).elim (fun z => by rw [z]; exact hm) (hd x)⟩
theorem u8_nat {m : Int} (h : (Lit.int .u8 m).wf = true) : ∃ k : Nat, m = k ∧ k < 256 := by
  simp [Lit.wf, IntKind.min, IntKind.max, IntKind.signed, IntKind.bits] at h
  exact ⟨m.toNat, by omega, by omega⟩
section
variable {h : AH}
theorem rd_bytes {g n : Nat} {al : List Value} (r : RdL Try.prog (Rd Try.prog h (g + 1)) (List.replicate n 5) al) : ∃ data : List Nat, al = natC .u8 data ∧ data.length = n ∧ ∀ x ∈ data, x < 256 := by
  obtain ⟨hl, hi⟩ := r.rep
  have hc2 : Try.prog.cellsOf 5 = 1 := by simp
  rw [hc2, Nat.mul_one] at hl
  obtain ⟨data, rfl, hd⟩ := bytes_all al fun v hv => by
    obtain ⟨i, hil, rfl⟩ := List.mem_iff_getElem.1 hv
    have := hi i (by omega)
    rw [hc2, Nat.mul_one, drop_take_one hil] at this
    unfold Rd at this
    rw [Try.underlying5] at this
    obtain ⟨m, e, hw⟩ := this
    obtain ⟨k, rfl, hk⟩ := u8_nat hw
    exact ⟨k, by simpa using e, hk⟩
  exact ⟨data, rfl, by rw [natC_len] at hl; exact hl, hd⟩
/-- A text that is read. -/
def Text (h : AH) (p : Option Addr) (n : Nat) (data : List Nat) : Prop := (p = none ∨ ∃ b off, p = some ⟨b, off, none⟩) ∧ n = data.length ∧ n ≤ reachBytes ∧ Shows h p n 1 (natC .u8 data) ∧ ∀ x ∈ data, x < 256
theorem Text.old {h' : AH} {p : Option Addr} {n : Nat} {data : List Nat} (t : Text h p n data) (o : Old h h') : Text h' p n data := ⟨t.1, t.2.1, t.2.2.1, t.2.2.2.1.old o, t.2.2.2.2⟩
theorem rd_text {g : Nat} {v : Value} (r : Rd Try.prog h (g + 2) 29 [v]) : ∃ p n c data, v = .slice p n c ∧ Text h p n data := by
  unfold Rd at r
  rw [Try.underlying29] at r
  obtain ⟨p, n, c, al, e, hp, hn, hb, hs, hr⟩ := r
  have hc2 : Try.prog.cellsOf 5 = 1 := by simp
  have hb2 : Try.prog.bytesOf 5 = 1 := by kernel_rfl
  rw [hc2] at hs
  rw [hb2, Nat.mul_one] at hb
  obtain ⟨data, rfl, hl, hd⟩ := rd_bytes hr
  exact ⟨p, n, c, data, by simpa using e, hp, hl.symm, hb, hs, hd⟩
/-- A row of texts that is read. -/
def Texts (h : AH) (p : Option Addr) (n : Nat) (ds : List (List Nat)) : Prop := (p = none ∨ ∃ b off, p = some ⟨b, off, none⟩) ∧ n = ds.length ∧ ∃ cells, Shows h p n 1 cells ∧ ∀ (i : Nat) (hi : i < ds.length), ∃ p' n' c', cells[i]? = some (.slice p' n' c') ∧ Text h p' n' ds[i]
theorem Texts.old {h' : AH} {p : Option Addr} {n : Nat} {ds : List (List Nat)} (t : Texts h p n ds) (o : Old h h') : Texts h' p n ds := by
  obtain ⟨t1, t2, cells, t3, t4⟩ := t
  refine ⟨t1, t2, cells, t3.old o, fun i hi => ?_⟩
  obtain ⟨p', n', c', q1, q2⟩ := t4 i hi
  exact ⟨p', n', c', q1, q2.old o⟩
theorem list_of {α : Type} (Q : Nat → α → Prop) : ∀ n : Nat, (∀ i, i < n → ∃ a, Q i a) → ∃ l : List α, l.length = n ∧ ∀ (i : Nat) (hi : i < l.length), Q i l[i]
  | 0, _ => ⟨[], rfl, fun i hi => absurd hi (Nat.not_lt_zero _)⟩
  | n + 1, h => by
    obtain ⟨l, hl, hq⟩ := list_of Q n fun i hi => h i (by omega)
    obtain ⟨a, ha⟩ := h n (Nat.lt_succ_self _)
    refine ⟨l ++ [a], by simp [hl], fun i hi => ?_⟩
    rw [List.getElem_append]
    split
    · rename_i z; exact hq i z
    · rename_i z
      have : i = n := by simp at hi; omega
      subst this
      simpa using ha
theorem rd_texts {g : Nat} {v : Value} (r : Rd Try.prog h (g + 3) 22 [v]) : ∃ p n c ds, v = .slice p n c ∧ Texts h p n ds := by
  unfold Rd at r
  rw [Try.underlying22] at r
  obtain ⟨p, n, c, al, e, hp, hn, hb, hs, hr⟩ := r
  have hc2 : Try.prog.cellsOf 29 = 1 := by simp
  obtain ⟨hl, hi⟩ := hr.rep
  rw [hc2] at hs hi hl
  rw [Nat.mul_one] at hl
  obtain ⟨ds, hdl, hds⟩ := list_of (fun i d => ∃ p' n' c', al[i]? = some (.slice p' n' c') ∧ Text h p' n' d) n fun i hin => by
    have := hi i hin
    rw [Nat.mul_one, drop_take_one (by omega)] at this
    obtain ⟨p', n', c', data, e', t'⟩ := rd_text this
    exact ⟨data, p', n', c', by rw [List.getElem?_eq_getElem (by omega), e'], t'⟩
  exact ⟨p, n, c, ds, by simpa using e, hp, hdl.symm, al, hs, hds⟩
theorem rd_sec {g : Nat} {v : Value} (r : RdV Try.prog h (g + 2) 24 v) : ∃ s, v = .agg (secC s).toArray ∧ Sec s := by
  unfold RdV at r
  rw [Try.underlying24] at r
  obtain ⟨cs, rfl, r⟩ := r
  unfold Rd at r
  rw [Try.underlying24] at r
  obtain ⟨data, rfl, hl, hd⟩ := rd_bytes r
  exact ⟨data, rfl, hl, hd⟩
theorem rd_int {g : Nat} {v : Value} (r : RdV Try.prog h (g + 1) 3 v) : ∃ n, v = .int .i64 n ∧ (Lit.int .i64 n).wf = true := by
  unfold RdV at r
  rw [Try.underlying3] at r
  unfold Rd at r
  rw [Try.underlying3] at r
  obtain ⟨n, e, hw⟩ := r
  exact ⟨n, by simpa using e, hw⟩
/-- A text of a row, where it lies. -/
theorem Texts.at {p : Option Addr} {n : Nat} {ds : List (List Nat)} (t : Texts h p n ds) {i : Nat} (hi : i < n) : ∃ b off, p = some ⟨b, off, none⟩ ∧ ∃ (hi' : i < ds.length), ∃ p' n' c', ld1 h b (off + i) = some (.slice p' n' c') ∧ Text h p' n' ds[i] := by
  obtain ⟨t1, t2, cells, t3, t4⟩ := t
  obtain ⟨b, off, hp, hld⟩ := t3.get hi
  obtain ⟨p', n', c', q1, q2⟩ := t4 i (by omega)
  exact ⟨b, off, hp, by omega, p', n', c', by rw [hld, q1], q2⟩
theorem Fr.old {F F' : List Nat} {h0 g g' : AH} (f : Fr F g g' F') (o : Old h0 g) (hF : ∀ c ∈ F, h0.next ≤ c) : Old h0 g' ∧ ∀ c ∈ F', h0.next ≤ c :=
  ⟨⟨Nat.le_trans o.1 f.1, fun c hc => by rw [f.2.1 c (Nat.lt_of_lt_of_le hc o.1) (fun z => absurd (hF c z) (by omega)), o.2 c hc]⟩, fun c hc => (f.2.2 c hc).elim (hF c) (fun z => Nat.le_trans o.1 z)⟩
theorem Old.near {h0 g g' : AH} {b : Nat} (o : Old h0 g) (n : Near b g g') (hb : h0.next ≤ b) : Old h0 g' := ⟨by rw [n.1]; exact o.1, fun c hc => by rw [n.2 c (by omega), o.2 c hc]⟩
end
end Go.Am
