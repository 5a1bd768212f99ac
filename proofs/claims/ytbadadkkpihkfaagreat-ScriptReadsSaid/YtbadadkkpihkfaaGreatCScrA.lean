/-
  WHAT ARGUMENTS ARE: texts, ops, scripts.
-/
import Derived.Test.YtbadadkkpihkfaaGreatAmH
import Derived.Test.YtbadadkkpihkfaaGreatCScrP
import Derived.Test.YtbadadkkpihkfaaGreatPFacts
set_option linter.unusedVariables false
set_option linter.unusedSimpArgs false
set_option maxRecDepth 100000
namespace Go.Am
open Go.Proofs
theorem eU8 : ElemOk Tryz.prog 26 5 1 1 := ElemOk_of (by kernel_rfl)
theorem eBool : ElemOk Tryz.prog 41 4 1 1 := ElemOk_of (by kernel_rfl)
theorem eTexts : ElemOk Tryz.prog 47 26 1 24 := ElemOk_of (by kernel_rfl)
theorem eOps : ElemOk Tryz.prog 22 43 6 96 := ElemOk_of (by kernel_rfl)
theorem bytes_all : ∀ al : List Value, (∀ v ∈ al, ∃ m : Nat, v = .int .u8 m ∧ m < 256) → ∃ data : List Nat, al = natC .u8 data ∧ ∀ x ∈ data, x < 256
  | [], _ => ⟨[], rfl, by simp⟩
  | v :: al, h => by
    obtain ⟨m, rfl, hm⟩ := h v List.mem_cons_self
    obtain ⟨ds, rfl, hd⟩ := bytes_all al fun x hx => h x (List.mem_cons_of_mem _ hx)
    exact ⟨m :: ds, rfl, fun x hx => (List.mem_cons.1 hx).elim (fun z => by rw [z]; exact hm) (hd x)⟩
theorem u8_nat {m : Int} (h : (Lit.int .u8 m).wf = true) : ∃ k : Nat, m = k ∧ k < 256 := by
  simp [Lit.wf, IntKind.min, IntKind.max, IntKind.signed, IntKind.bits] at h
  exact ⟨m.toNat, by omega, by omega⟩
def bolC (l : List Bool) : List Value := l.map .bool
theorem bolC_len (l : List Bool) : (bolC l).length = l.length := by simp [bolC]
theorem bolC_get {l : List Bool} {i : Nat} (hi : i < l.length) : (bolC l)[i]? = some (.bool l[i]) := by simp [bolC, hi]
theorem bolC_app (a b : List Bool) : bolC (a ++ b) = bolC a ++ bolC b := by simp [bolC]
theorem bools_all : ∀ al : List Value, (∀ v ∈ al, ∃ b : Bool, v = .bool b) → ∃ l : List Bool, al = bolC l
  | [], _ => ⟨[], rfl⟩
  | v :: al, h => by
    obtain ⟨b, rfl⟩ := h v List.mem_cons_self
    obtain ⟨l, rfl⟩ := bools_all al fun x hx => h x (List.mem_cons_of_mem _ hx)
    exact ⟨b :: l, rfl⟩
theorem list_of {α : Type} (Q : Nat → α → Prop) : ∀ n : Nat, (∀ i, i < n → ∃ a, Q i a) → ∃ l : List α, l.length = n ∧ ∀ (i : Nat) (hi : i < l.length), Q i l[i]
  | 0, _ => ⟨[], rfl, fun i hi => absurd hi (Nat.not_lt_zero _)⟩
  | n + 1, h => by
    obtain ⟨l, hl, hq⟩ := list_of Q n fun i hi => h i (by omega)
    obtain ⟨a, ha⟩ := h n (Nat.lt_succ_self _)
    refine ⟨l ++ [a], by simp [hl], fun i hi => ?_⟩
    rw [List.getElem_append]
    split
    · rename_i z; exact hq i z
    · rename_i z
      have : i = n := by simp at hi; omega
      subst this
      simpa using ha
def PForm (p : Option Addr) : Prop := p = none ∨ ∃ b off, p = some ⟨b, off, none⟩
/-- A text in memory. -/
def Text (h : AH) (p : Option Addr) (n : Nat) (data : List Nat) : Prop := PForm p ∧ n = data.length ∧ n ≤ reachBytes ∧ Shows h p n 1 (natC .u8 data) ∧ ∀ x ∈ data, x < 256
def Bools (h : AH) (p : Option Addr) (n : Nat) (l : List Bool) : Prop := PForm p ∧ n = l.length ∧ n ≤ reachBytes ∧ Shows h p n 1 (bolC l)
theorem Text.old {h h' : AH} {p : Option Addr} {n : Nat} {data : List Nat} (t : Text h p n data) (o : Old h h') : Text h' p n data := ⟨t.1, t.2.1, t.2.2.1, t.2.2.2.1.old o, t.2.2.2.2⟩
theorem Bools.old {h h' : AH} {p : Option Addr} {n : Nat} {l : List Bool} (t : Bools h p n l) (o : Old h h') : Bools h' p n l := ⟨t.1, t.2.1, t.2.2.1, t.2.2.2.old o⟩
/-- An op's cells. -/
def OpAt (h : AH) (cs : List Value) (o : OpP) : Prop := ∃ pd nd cd pk nk ck, cs = [.int .i64 o.kind, .string o.name, .string o.to, .int .i64 o.n, .slice pd nd cd, .slice pk nk ck] ∧ Text h pd nd o.data ∧ Bools h pk nk o.keep ∧ o.name.size ≤ reachBytes ∧ o.to.size ≤ reachBytes
theorem OpAt.old {h h' : AH} {cs : List Value} {o : OpP} (t : OpAt h cs o) (k : Old h h') : OpAt h' cs o := by
  obtain ⟨pd, nd, cd, pk, nk, ck, e, t1, t2, t3⟩ := t
  exact ⟨pd, nd, cd, pk, nk, ck, e, t1.old k, t2.old k, t3⟩
/-- A row of ops. -/
def Ops (h : AH) (p : Option Addr) (n : Nat) (os : List OpP) : Prop := PForm p ∧ n = os.length ∧ n * 96 ≤ reachBytes ∧ ∃ cells, Shows h p n 6 cells ∧ ∀ (i : Nat) (hi : i < os.length), OpAt h ((cells.drop (i * 6)).take 6) os[i]
theorem Ops.old {h h' : AH} {p : Option Addr} {n : Nat} {os : List OpP} (t : Ops h p n os) (o : Old h h') : Ops h' p n os := by
  obtain ⟨t1, t2, t3, cells, t4, t5⟩ := t
  exact ⟨t1, t2, t3, cells, t4.old o, fun i hi => (t5 i hi).old o⟩
/-- An op of a row, where it lies. -/
theorem Ops.at {h : AH} {p : Option Addr} {n : Nat} {os : List OpP} (t : Ops h p n os) {i : Nat} (hi : i < n) : ∃ b off, p = some ⟨b, off, none⟩ ∧ ∃ (hi' : i < os.length), ∃ pd nd cd pk nk ck,
    ldN h b (off + i * 6) 6 = some [.int .i64 os[i].kind, .string os[i].name, .string os[i].to, .int .i64 os[i].n, .slice pd nd cd, .slice pk nk ck] ∧
    ld1 h b (off + i * 6) = some (.int .i64 os[i].kind) ∧ ld1 h b (off + i * 6 + 1) = some (.string os[i].name) ∧ ld1 h b (off + i * 6 + 2) = some (.string os[i].to) ∧ ld1 h b (off + i * 6 + 3) = some (.int .i64 os[i].n) ∧ ld1 h b (off + i * 6 + 4) = some (.slice pd nd cd) ∧ ld1 h b (off + i * 6 + 5) = some (.slice pk nk ck) ∧
    Text h pd nd os[i].data ∧ Bools h pk nk os[i].keep ∧ os[i].name.size ≤ reachBytes ∧ os[i].to.size ≤ reachBytes ∧ b < h.next := by
  obtain ⟨t1, t2, t3, cells, t4, t5⟩ := t
  obtain ⟨b, off, hp, hld, h1⟩ := t4.getN hi
  have hi' : i < os.length := by omega
  obtain ⟨pd, nd, cd, pk, nk, ck, e, t6, t7, t8, t9⟩ := t5 i hi'
  have hb : b < h.next := by
    rcases t4.2 with z | ⟨b', off', al, e', ro, hp', hb', -⟩
    · omega
    · rw [hp] at hp'; cases hp'; exact hb'
  have ge : ∀ (j : Nat) (v : Value), j < 6 → ([Value.int .i64 os[i].kind, .string os[i].name, .string os[i].to, .int .i64 os[i].n, .slice pd nd cd, .slice pk nk ck] : List Value)[j]? = some v → ld1 h b (off + i * 6 + j) = some v := by
    intro j v hj hv
    rw [h1 j hj, ← hv, ← e, List.getElem?_take, if_pos hj, List.getElem?_drop]
  exact ⟨b, off, hp, hi', pd, nd, cd, pk, nk, ck, by rw [hld, e], ge 0 _ (by omega) rfl, ge 1 _ (by omega) rfl, ge 2 _ (by omega) rfl, ge 3 _ (by omega) rfl, ge 4 _ (by omega) rfl, ge 5 _ (by omega) rfl, t6, t7, t8, t9, hb⟩
section
variable {h : AH}
theorem drop_take_one {l : List Value} {i : Nat} (hi : i < l.length) : (l.drop i).take 1 = [l[i]] := by
  rw [List.drop_eq_getElem_cons hi]
  rfl
theorem rd_bytes {g n : Nat} {al : List Value} (r : RdL Tryz.prog (Rd Tryz.prog h (g + 1)) (List.replicate n 5) al) : ∃ data : List Nat, al = natC .u8 data ∧ data.length = n ∧ ∀ x ∈ data, x < 256 := by
  obtain ⟨hl, hi⟩ := r.rep
  have hc2 : Tryz.prog.cellsOf 5 = 1 := by simp
  rw [hc2, Nat.mul_one] at hl
  obtain ⟨data, rfl, hd⟩ := bytes_all al fun v hv => by
    obtain ⟨i, hil, rfl⟩ := List.mem_iff_getElem.1 hv
    have := hi i (by omega)
    rw [hc2, Nat.mul_one, drop_take_one hil] at this
    unfold Rd at this
    rw [Tryz.underlying5] at this
    obtain ⟨m, e, hw⟩ := this
    obtain ⟨k, rfl, hk⟩ := u8_nat hw
    exact ⟨k, by simpa using e, hk⟩
  exact ⟨data, rfl, by rw [natC_len] at hl; exact hl, hd⟩
theorem rd_bools {g n : Nat} {al : List Value} (r : RdL Tryz.prog (Rd Tryz.prog h (g + 1)) (List.replicate n 4) al) : ∃ l : List Bool, al = bolC l ∧ l.length = n := by
  obtain ⟨hl, hi⟩ := r.rep
  have hc2 : Tryz.prog.cellsOf 4 = 1 := by simp
  rw [hc2, Nat.mul_one] at hl
  obtain ⟨l, rfl⟩ := bools_all al fun v hv => by
    obtain ⟨i, hil, rfl⟩ := List.mem_iff_getElem.1 hv
    have := hi i (by omega)
    rw [hc2, Nat.mul_one, drop_take_one hil] at this
    unfold Rd at this
    rw [Tryz.underlying4] at this
    obtain ⟨b, e⟩ := this
    exact ⟨b, by simpa using e⟩
  exact ⟨l, rfl, by rw [bolC_len] at hl; exact hl⟩
theorem rd_text {g : Nat} {v : Value} (r : Rd Tryz.prog h (g + 2) 26 [v]) : ∃ p n c data, v = .slice p n c ∧ Text h p n data ∧ (0 < n → n ≤ c ∧ c < openCap) := by
  unfold Rd at r
  rw [Tryz.underlying26] at r
  obtain ⟨p, n, c, al, e, hp, hn, hb, hs, hr⟩ := r
  have hc2 : Tryz.prog.cellsOf 5 = 1 := by simp
  have hb2 : Tryz.prog.bytesOf 5 = 1 := by kernel_rfl
  rw [hc2] at hs
  rw [hb2, Nat.mul_one] at hb
  obtain ⟨data, rfl, hl, hd⟩ := rd_bytes hr
  exact ⟨p, n, c, data, by simpa using e, ⟨hp, hl.symm, hb, hs, hd⟩, hn.2⟩
theorem rd_boolsS {g : Nat} {v : Value} (r : Rd Tryz.prog h (g + 2) 41 [v]) : ∃ p n c l, v = .slice p n c ∧ Bools h p n l := by
  unfold Rd at r
  rw [Tryz.underlying41] at r
  obtain ⟨p, n, c, al, e, hp, hn, hb, hs, hr⟩ := r
  have hc2 : Tryz.prog.cellsOf 4 = 1 := by simp
  have hb2 : Tryz.prog.bytesOf 4 = 1 := by kernel_rfl
  rw [hc2] at hs
  rw [hb2, Nat.mul_one] at hb
  obtain ⟨l, rfl, hl⟩ := rd_bools hr
  exact ⟨p, n, c, l, by simpa using e, hp, hl.symm, hb, hs⟩
theorem rd_op {g : Nat} {cs : List Value} (r : Rd Tryz.prog h (g + 3) 43 cs) : ∃ o : OpP, OpAt h cs o := by
  unfold Rd at r
  rw [Tryz.underlying43] at r
  have hc1 : Tryz.prog.cellsOf 3 = 1 := by simp
  have hc2 : Tryz.prog.cellsOf 26 = 1 := by simp
  have hc3 : Tryz.prog.cellsOf 9 = 1 := by simp
  have hc4 : Tryz.prog.cellsOf 41 = 1 := by simp
  simp only [List.map_cons, List.map_nil, RdL, hc1, hc2, hc3, hc4, List.drop_drop] at r
  obtain ⟨k1, r1, k2, r2, k3, r3, k4, r4, k5, r5, k6, r6, r7⟩ := r
  unfold Rd at r1 r2 r3 r4
  rw [Tryz.underlying3] at r1 r4
  rw [Tryz.underlying9] at r2 r3
  obtain ⟨x1, e1, -⟩ := r1
  obtain ⟨x2, e2, -, w2⟩ := r2
  obtain ⟨x3, e3, -, w3⟩ := r3
  obtain ⟨x4, e4, -⟩ := r4
  match cs, e1, e2, e3, e4, r5, r6, r7, k6 with
  | [c0, c1, c2, c3, c4, c5], e1, e2, e3, e4, r5, r6, r7, k6 =>
    obtain ⟨pd, nd, cd, data, e5, t5, -⟩ := rd_text (g := g) (v := c4) r5
    obtain ⟨pk, nk, ck, keep, e6, t6⟩ := rd_boolsS (g := g) (v := c5) r6
    simp at e1 e2 e3 e4
    subst e1 e2 e3 e4 e5 e6
    exact ⟨⟨x1, x2, x3, x4, data, keep⟩, pd, nd, cd, pk, nk, ck, rfl, t5, t6, w2, w3⟩
  | c0 :: c1 :: c2 :: c3 :: c4 :: c5 :: c6 :: l, e1, e2, e3, e4, r5, r6, r7, k6 => simp at r7
theorem rd_ops {g : Nat} {v : Value} (r : Rd Tryz.prog h (g + 4) 22 [v]) : ∃ p n c os, v = .slice p n c ∧ Ops h p n os := by
  unfold Rd at r
  rw [Tryz.underlying22] at r
  obtain ⟨p, n, c, al, e, hp, hn, hb, hs, hr⟩ := r
  have hc2 : Tryz.prog.cellsOf 43 = 6 := by simp
  have hb2 : Tryz.prog.bytesOf 43 = 96 := by kernel_rfl
  rw [hb2] at hb
  obtain ⟨hl, hi⟩ := hr.rep
  rw [hc2] at hs hi hl
  obtain ⟨os, hos, hq⟩ := list_of (fun i (o : OpP) => OpAt h ((al.drop (i * 6)).take 6) o) n fun i hin => rd_op (hi i hin)
  exact ⟨p, n, c, os, by simpa using e, hp, hos.symm, hb, al, hs, hq⟩
/-- A script as an argument. -/
theorem rd_scr {g : Nat} {v : Value} (r : RdV Tryz.prog h (g + 5) 24 v) : ∃ p n c, ∃ s : ScrP, v = .agg #[.int .i64 s.secs, .slice p n c] ∧ Ops h p n s.ops := by
  unfold RdV at r
  rw [Tryz.underlying24] at r
  obtain ⟨cs, rfl, r⟩ := r
  unfold Rd at r
  rw [Tryz.underlying24] at r
  have hc1 : Tryz.prog.cellsOf 3 = 1 := by simp
  have hc2 : Tryz.prog.cellsOf 22 = 1 := by simp
  simp only [List.map_cons, List.map_nil, RdL, hc1, hc2, List.drop_drop] at r
  obtain ⟨k1, r1, k2, r2, r3⟩ := r
  unfold Rd at r1
  rw [Tryz.underlying3] at r1
  obtain ⟨x1, e1, -⟩ := r1
  match cs, e1, r2, r3, k2 with
  | [c0, c1], e1, r2, r3, k2 =>
    obtain ⟨p, n, c, os, e2, T⟩ := rd_ops (g := g) (v := c1) r2
    simp at e1
    subst e1 e2
    exact ⟨p, n, c, ⟨x1, os⟩, rfl, T⟩
  | c0 :: c1 :: c2 :: l, e1, r2, r3, k2 => simp at r3
theorem rdv_text {g : Nat} {a : Value} (r : RdV Tryz.prog h g 26 a) : Rd Tryz.prog h g 26 [a] := by
  unfold RdV at r
  rw [Tryz.underlying26] at r
  exact r
theorem bytes_args {vs : List Value} (r : RdA Tryz.prog h 8 [26] vs) : ∃ p n c data, vs = [.slice p n c] ∧ Text h p n data ∧ (0 < n → n ≤ c ∧ c < openCap) := by
  obtain ⟨a, rfl, r1⟩ := rda1 r
  obtain ⟨p, n, c, data, rfl, T, C⟩ := rd_text (g := 6) (rdv_text r1)
  exact ⟨p, n, c, data, rfl, T, C⟩
theorem scr_args {vs : List Value} (r : RdA Tryz.prog h 8 [24] vs) : ∃ p n c, ∃ s : ScrP, vs = [.agg #[.int .i64 s.secs, .slice p n c]] ∧ Ops h p n s.ops := by
  obtain ⟨a, rfl, r1⟩ := rda1 r
  obtain ⟨p, n, c, s, rfl, T⟩ := rd_scr (g := 3) r1
  exact ⟨p, n, c, s, rfl, T⟩
theorem back_args {vs : List Value} (r : RdA Tryz.prog h 8 [24, 26] vs) : ∃ p n c, ∃ s : ScrP, ∃ q m d data, vs = [.agg #[.int .i64 s.secs, .slice p n c], .slice q m d] ∧ Ops h p n s.ops ∧ Text h q m data ∧ (0 < m → m ≤ d ∧ d < openCap) := by
  obtain ⟨a, b, rfl, r1, r2⟩ := rda2 r
  obtain ⟨p, n, c, s, rfl, T⟩ := rd_scr (g := 3) r1
  obtain ⟨q, m, d, data, rfl, U, C⟩ := rd_text (g := 6) (rdv_text r2)
  exact ⟨p, n, c, s, q, m, d, data, rfl, T, U, C⟩
end
end Go.Am
