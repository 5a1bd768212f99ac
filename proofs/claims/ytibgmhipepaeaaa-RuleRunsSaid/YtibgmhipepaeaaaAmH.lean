/-
  CONTRACTS: memory, frames, slices that grow.
-/
import Derived.Test.YtibgmhipepaeaaaAmG
import Derived.WideKeyArgs
import Derived.DataReads
import Derived.OpenShut
set_option linter.unusedVariables false
set_option linter.unusedSimpArgs false
namespace Go.Am
def Old (h h' : AH) : Prop := h.next ≤ h'.next ∧ ∀ b, b < h.next → h'.get b = h.get b
def OldB (lim : Nat) (h h' : AH) : Prop := h.next ≤ h'.next ∧ ∀ b, b < lim → h'.get b = h.get b
theorem Old.refl (h : AH) : Old h h := ⟨Nat.le_refl _, fun _ _ => rfl⟩
theorem Old.trans {h1 h2 h3 : AH} (a : Old h1 h2) (b : Old h2 h3) : Old h1 h3 := ⟨Nat.le_trans a.1 b.1, fun c hc => by rw [b.2 c (Nat.lt_of_lt_of_le hc a.1), a.2 c hc]⟩
theorem OldB.refl (lim : Nat) (h : AH) : OldB lim h h := ⟨Nat.le_refl _, fun _ _ => rfl⟩
theorem OldB.trans {lim : Nat} {h1 h2 h3 : AH} (a : OldB lim h1 h2) (b : OldB lim h2 h3) : OldB lim h1 h3 := ⟨Nat.le_trans a.1 b.1, fun c hc => by rw [b.2 c hc, a.2 c hc]⟩
theorem Old.toB {lim : Nat} {h h' : AH} (a : Old h h') (hl : lim ≤ h.next) : OldB lim h h' := ⟨a.1, fun c hc => a.2 c (Nat.lt_of_lt_of_le hc hl)⟩
theorem Old_alloc (h : AH) (o : AObj) : Old h (h.alloc o) := ⟨Nat.le_succ _, fun b hb => by rw [AH.get_alloc, if_neg (by omega)]⟩
theorem Old.alloc {h h1 h2 : AH} (a : Old h h1) {o : AObj} (e : h2 = h1.alloc o) : Old h h2 := by subst e; exact a.trans (Old_alloc _ _)
theorem OldB.alloc {lim : Nat} {h h1 h2 : AH} (a : OldB lim h h1) (hl : lim ≤ h.next) {o : AObj} (e : h2 = h1.alloc o) : OldB lim h h2 := by subst e; exact a.trans ((Old_alloc _ _).toB (Nat.le_trans hl a.1))
theorem OldB.set {lim : Nat} {h h1 : AH} (a : OldB lim h h1) {b : Nat} (hb : lim ≤ b) (o : AObj) : OldB lim h (h1.set b o) := ⟨a.1, fun c hc => by rw [AH.get_set, if_neg (by omega)]; exact a.2 c hc⟩
theorem get_alloc_next (h : AH) (o : AObj) : (h.alloc o).get h.next = some o := by rw [AH.get_alloc, if_pos rfl]
theorem get_of_alloc {h h' : AH} {o : AObj} (e : h' = h.alloc o) : h'.get h.next = some o := by rw [e]; exact get_alloc_next _ _
theorem old_of_alloc {h h' : AH} {o : AObj} (e : h' = h.alloc o) : Old h h' := by rw [e]; exact Old_alloc _ _
theorem next_of_alloc {h h' : AH} {o : AObj} (e : h' = h.alloc o) : h'.next = h.next + 1 := by rw [e]; rfl
theorem get_alloc_ne {h : AH} {o : AObj} {b : Nat} (hb : b ≠ h.next) : (h.alloc o).get b = h.get b := by rw [AH.get_alloc, if_neg hb]
theorem get_set_ne {h : AH} {o : AObj} {b c : Nat} (hb : b ≠ c) : (h.set c o).get b = h.get b := by rw [AH.get_set, if_neg hb]
/-! ## Loads and stores -/
theorem ld1_of {h : AH} {b off : Nat} {cs : List Value} {e : TypeId} {ro : Bool} (hb : h.get b = some (.cells cs e ro)) : ld1 h b off = cs[off]? := by unfold ld1; rw [hb]; rfl
theorem ld1_at {h : AH} {b off : Nat} {cs : List Value} {e : TypeId} {ro : Bool} {v : Value} (hb : h.get b = some (.cells cs e ro)) (hv : cs[off]? = some v) : ld1 h b off = some v := by rw [ld1_of hb, hv]
theorem ldN_of {h : AH} {b off n : Nat} {cs : List Value} {e : TypeId} {ro : Bool} (hb : h.get b = some (.cells cs e ro)) (hl : off + n ≤ cs.length) : ldN h b off n = some ((cs.drop off).take n) := by unfold ldN; rw [hb]; exact if_pos hl
theorem ldN_all {h : AH} {b n : Nat} {cs : List Value} {e : TypeId} {ro : Bool} (hb : h.get b = some (.cells cs e ro)) (hl : cs.length = n) : ldN h b 0 n = some cs := by rw [ldN_of hb (by omega)]; simp [← hl]
theorem st1_of {h : AH} {b off : Nat} {cs : List Value} {e : TypeId} {v : Value} (hb : h.get b = some (.cells cs e false)) (hl : off < cs.length) : st1 h b off v = some (h.set b (.cells (cs.set off v) e false)) := by unfold st1 store1; rw [hb]; exact if_pos hl
theorem stN_of {h : AH} {b off : Nat} {cs vs : List Value} {e : TypeId} (hb : h.get b = some (.cells cs e false)) (hl : off + vs.length ≤ cs.length) : stN h b off vs = some (h.set b (.cells (cs.take off ++ vs ++ cs.drop (off + vs.length)) e false)) := by unfold stN storeN; rw [hb]; exact if_pos hl
theorem stN_all {h : AH} {b : Nat} {cs vs : List Value} {e : TypeId} (hb : h.get b = some (.cells cs e false)) (hl : vs.length = cs.length) : stN h b 0 vs = some (h.set b (.cells vs e false)) := by
 rw [stN_of hb (by omega)]
 simp [hl]
/-! ## Numbers -/
theorem i64w {c x : Int} (hc : c = IntKind.wrap .i64 x) (h1 : -9223372036854775808 ≤ x) (h2 : x ≤ 9223372036854775807) : c = x := by rw [hc, wrap_i64 h1 h2]
theorem u64w {c x : Int} (hc : c = IntKind.wrap .u64 x) (h1 : 0 ≤ x) (h2 : x ≤ 18446744073709551615) : c = x := by rw [hc, wrap_u64 h1 h2]
def Shows (h : AH) (p : Option Addr) (n : Nat) (sz : Nat) (cs : List Value) : Prop :=
 cs.length = n * sz ∧ (n = 0 ∨ ∃ b off al e ro, p = some ⟨b, off, none⟩ ∧ b < h.next ∧ h.get b = some (.cells al e ro) ∧ off + n * sz ≤ al.length ∧ (al.drop off).take (n * sz) = cs)
theorem Shows.old {h h' : AH} {p : Option Addr} {n sz : Nat} {cs : List Value} (s : Shows h p n sz cs) (o : Old h h') : Shows h' p n sz cs := by
 refine ⟨s.1, ?_⟩
 rcases s.2 with h0 | ⟨b, off, al, e, ro, hp, hb, hg, hl, hc⟩
 ·exact .inl h0
 ·exact .inr ⟨b, off, al, e, ro, hp, Nat.lt_of_lt_of_le hb o.1, by rw [o.2 b hb, hg], hl, hc⟩
theorem Shows.firstC {h : AH} {p : Option Addr} {n sz c : Nat} {cs : List Value} (s : Shows h p n sz cs) (hp : p = none ∨ ∃ b off, p = some ⟨b, off, none⟩) : firstC h sz n (.slice p n c) = some cs := by
 rcases s.2 with h0 | ⟨b, off, al, e, ro, hp, hb, hg, hl, hc⟩
 ·subst h0
  have : cs = [] := by have := s.1; simp at this; exact this
  subst this
  rcases hp with rfl | ⟨b, off, rfl⟩
  ·rfl
  ·simp [Am.firstC]
 ·subst hp
  unfold Am.firstC
  cases hm : n * sz with
  | zero =>
    have := s.1
    rw [hm] at this
    simp only
    rw [List.eq_nil_of_length_eq_zero this]
  | succ m =>
    simp only [hg, Nat.le_refl, true_and]
    rw [hm] at hl hc
    rw [if_pos hl, hc]
def Grow (lim : Nat) (h : AH) (elem : TypeId) (sz : Nat) (p : Option Addr) (n c : Nat) (cs : List Value) : Prop :=
 cs.length = n * sz ∧ ((p = none ∧ n = 0 ∧ c = 0) ∨ ∃ b, p = some ⟨b, 0, none⟩ ∧ lim ≤ b ∧ b < h.next ∧ h.get b = some (.cells cs elem false) ∧ (c = openCap ∨ c = n))
theorem Grow.shows {lim : Nat} {h : AH} {elem : TypeId} {sz : Nat} {p : Option Addr} {n c : Nat} {cs : List Value} (g : Grow lim h elem sz p n c cs) : Shows h p n sz cs := by
 refine ⟨g.1, ?_⟩
 rcases g.2 with ⟨hp, hn, hc⟩ | ⟨b, hp, hl, hb, hg, hc⟩
 ·exact .inl hn
 ·exact .inr ⟨b, 0, cs, elem, false, hp, hb, hg, by rw [g.1]; omega, by simp [← g.1]⟩
theorem Grow.nil (lim : Nat) (h : AH) (elem : TypeId) (sz : Nat) : Grow lim h elem sz none 0 0 [] := ⟨by simp, .inl ⟨rfl, rfl, rfl⟩⟩
theorem Grow.old {lim : Nat} {h h' : AH} {elem : TypeId} {sz : Nat} {p : Option Addr} {n c : Nat} {cs : List Value} (g : Grow lim h elem sz p n c cs) (o : Old h h') : Grow lim h' elem sz p n c cs := by
 refine ⟨g.1, ?_⟩
 rcases g.2 with hp | ⟨b, hp, hl, hb, hg, hc⟩
 ·exact .inl hp
 ·exact .inr ⟨b, hp, hl, Nat.lt_of_lt_of_le hb o.1, by rw [o.2 b hb, hg], hc⟩
def ElemOk (P : Program) (st elem : TypeId) (sz by' : Nat) : Prop :=
 P.underlying st = some (.slice elem) ∧ ∃ i z, P.info? elem = some i ∧ i.zero = some z ∧ z.cells.size = i.size ∧ 0 < i.size ∧ i.size = sz ∧ i.bytes = by'
def apart (p : Option Addr) (b : Nat) : Prop := match p with | some a => a.block ≠ b | none => True
theorem Grow.append {P : Program} {lim : Nat} {h : AH} {st elem : TypeId} {sz by' : Nat} {p : Option Addr} {n c : Nat} {cs : List Value} (g : Grow lim h elem sz p n c cs) (E : ElemOk P st elem sz by') (hlim : lim ≤ h.next)
 {x : Value} {m : Nat} {ns : List Value} (hx : lenV x = some m) (hf : firstC h sz m x = some ns) (hns : ns.length = m * sz) (hroom : (n + m) * by' ≤ roomMax) (hroom2 : n + m ≤ 9223372036854775807)
 (hxt : ∃ e, P.underlying st = some (.slice e)) :
 ∃ p' c' h', aBuiltin P h .append #[st, st] [.slice p n c, x] = some (.slice p' (n + m) c', h') ∧ Grow lim h' elem sz p' (n + m) c' (cs ++ ns) ∧ OldB lim h h' ∧ (∀ b, b < h.next → apart p b → h'.get b = h.get b) ∧ (0 < m → ∃ b, p' = some ⟨b, 0, none⟩ ∧ h.next ≤ b) := by
 obtain ⟨hu, i, z, hi, hz, hzs, hpos, rfl, rfl⟩ := E
 have hlen : (cs ++ ns).length = (n + m) * i.size := by rw [List.length_append, g.1, hns, Nat.add_mul]
 have hb0 : aBuiltin P h .append #[st, st] [.slice p n c, x] = aAppend P h st false (.slice p n c) x := aBuiltin_append hu
 rw [hb0]
 have hfc : firstC h i.size n (.slice p n c) = some cs := g.shows.firstC (by
  rcases g.2 with ⟨hp, _⟩ | ⟨b, hp, _⟩
  ·exact .inl hp
  ·exact .inr ⟨b, 0, hp⟩)
 have hcnd : z.cells.size = i.size ∧ 0 < i.size ∧ ns.length = m * i.size ∧ cs.length = n * i.size := ⟨hzs, hpos, hns, g.1⟩
 have fresh : ∃ p' c' h', some (Value.slice (some ⟨h.next, 0, none⟩) (n + m) openCap, h.alloc (.cells (cs ++ ns) elem false)) = some (.slice p' (n + m) c', h') ∧ Grow lim h' elem i.size p' (n + m) c' (cs ++ ns) ∧ OldB lim h h' ∧ (∀ b, b < h.next → apart p b → h'.get b = h.get b) ∧ (0 < m → ∃ b, p' = some ⟨b, 0, none⟩ ∧ h.next ≤ b) :=
  ⟨_, _, _, rfl, ⟨hlen, .inr ⟨h.next, rfl, hlim, Nat.lt_succ_self _, get_alloc_next _ _, .inl rfl⟩⟩, (Old_alloc _ _).toB hlim, fun b hb _ => get_alloc_ne (by omega), fun _ => ⟨_, rfl, Nat.le_refl _⟩⟩
 unfold aAppend
 simp only [hu, hi, hx, hfc, hf, hz]
 rw [if_pos hcnd]
 rcases g.2 with ⟨rfl, rfl, rfl⟩ | ⟨b, rfl, hl, hb, hg, hc⟩
 ·rw [if_neg (by decide)]
  by_cases hm : m = 0
  ·subst hm
   have : ns = [] := by have := hns; simp at this; exact this
   subst this
   rw [if_pos (by simp)]
   exact ⟨none, 0, h, rfl, ⟨by simpa using g.1, .inl ⟨rfl, rfl, rfl⟩⟩, OldB.refl _ _, fun _ _ _ => rfl, fun q => absurd q (Nat.lt_irrefl _)⟩
  ·rw [if_neg (by omega), if_pos ⟨Nat.le_refl _, hroom, hroom2⟩]
   exact fresh
 ·rcases hc with rfl | rfl
  ·rw [if_pos rfl]
   simp only [hg]
   rw [if_pos (by exact ⟨trivial, hroom, hroom2⟩)]
   refine ⟨_, _, _, rfl, ⟨hlen, .inr ⟨h.next, rfl, hlim, by simp, ?_, .inl rfl⟩⟩, ⟨by simp, ?_⟩, ?_, fun _ => ⟨_, rfl, Nat.le_refl _⟩⟩
   ·rw [AH.get_alloc, if_pos (by simp)]
   ·intro d hd
    rw [AH.get_alloc, if_neg (by simp; omega), AH.get_del, if_neg (by omega)]
   ·intro d hd ha
    rw [AH.get_alloc, if_neg (by simp; omega), AH.get_del, if_neg (fun q => ha (by rw [q]))]
  ·have hne : c ≠ openCap := by
    intro q
    have : c ≤ 9223372036854775807 := by omega
    rw [q] at this
    exact absurd this (by decide)
   rw [if_neg hne]
   by_cases hm : m = 0
   ·subst hm
    have : ns = [] := by have := hns; simp at this; exact this
    subst this
    rw [if_pos (by simp)]
    exact ⟨_, c, h, rfl, ⟨by simpa using g.1, .inr ⟨b, rfl, hl, hb, by simpa using hg, .inr rfl⟩⟩, OldB.refl _ _, fun _ _ _ => rfl, fun q => absurd q (Nat.lt_irrefl _)⟩
   ·rw [if_neg (by omega), if_pos ⟨Nat.le_refl _, hroom, hroom2⟩]
    exact fresh
def elemOkB (P : Program) (st elem : TypeId) (sz by' : Nat) : Bool :=
 match P.underlying st with
 | some (.slice e) =>
   match P.info? elem with
   | some i => match i.zero with | some z => Nat.beq e elem && Nat.beq z.cells.size i.size && Nat.blt 0 i.size && Nat.beq i.size sz && Nat.beq i.bytes by' | none => false
   | none => false
 | _ => false
theorem ElemOk_of {P : Program} {st elem : TypeId} {sz by' : Nat} (h : elemOkB P st elem sz by' = true) : ElemOk P st elem sz by' := by
 unfold elemOkB at h
 split at h
 ·rename_i e hu
  split at h
  ·rename_i i hi
   split at h
   ·rename_i z hz
    simp only [Bool.and_eq_true] at h
    obtain ⟨⟨⟨⟨h1, h2⟩, h3⟩, h4⟩, h5⟩ := h
    have h1 := Nat.eq_of_beq_eq_true h1
    subst h1
    exact ⟨hu, i, z, hi, hz, Nat.eq_of_beq_eq_true h2, by rw [Nat.blt_eq] at h3; exact h3, Nat.eq_of_beq_eq_true h4, Nat.eq_of_beq_eq_true h5⟩
   ·cases h
  ·cases h
 ·cases h
theorem firstC_new {h h1 : AH} {cs : List Value} {e : TypeId} {n sz c : Nat} {ro : Bool} (e1 : h1 = h.alloc (.cells cs e ro)) (hl : cs.length = n * sz) : firstC h1 sz n (.slice (some ⟨h.next, 0, none⟩) n c) = some cs := by
 subst e1
 unfold Am.firstC
 cases hm : n * sz with
 | zero =>
   simp only
   rw [hm] at hl
   rw [List.eq_nil_of_length_eq_zero hl]
 | succ m =>
   simp only [get_alloc_next, Nat.le_refl, true_and, Nat.zero_add, List.drop_zero]
   rw [if_pos (by omega), ← hm, ← hl, List.take_length]
def natC (k : IntKind) (l : List Nat) : List Value := l.map fun n : Nat => Value.int k (n : Int)
theorem Grow.push {P : Program} {lim : Nat} {h h4 : AH} {st elem : TypeId} {sz by' : Nat} {p : Option Addr} {n c : Nat} {cs : List Value} (g : Grow lim h elem sz p n c cs) (E : ElemOk P st elem sz by') (hlim : lim ≤ h.next)
 {m : Nat} {ns : List Value} (e4 : h4 = h.alloc (.cells ns elem false)) (hns : ns.length = m * sz) (hroom : (n + m) * by' ≤ roomMax) (hroom2 : n + m ≤ 9223372036854775807) :
 ∃ p' c' h', aBuiltin P h4 .append #[st, st] [.slice p n c, .slice (some ⟨h.next, 0, none⟩) m m] = some (.slice p' (n + m) c', h') ∧ Grow lim h' elem sz p' (n + m) c' (cs ++ ns) ∧ OldB lim h h' ∧ (∀ b, b < h.next → apart p b → h'.get b = h.get b) ∧ (0 < m → ∃ b, p' = some ⟨b, 0, none⟩ ∧ h.next ≤ b) := by
 obtain ⟨p', c', h5, h1, h2, h3, h6, h7⟩ := (g.old (by rw [e4]; exact Old_alloc _ _)).append E (by rw [e4]; exact Nat.le_trans hlim (Nat.le_succ _)) (x := .slice (some ⟨h.next, 0, none⟩) m m) (m := m) rfl (firstC_new e4 hns) hns hroom hroom2 ⟨_, E.1⟩
 refine ⟨p', c', h5, h1, h2, ((Old_alloc h _).toB hlim).trans (e4 ▸ h3), fun b hb ha => ?_, fun q => (h7 q).imp fun b hb => ⟨hb.1, by rw [e4] at hb; exact Nat.le_of_succ_le hb.2⟩⟩
 rw [h6 b (by rw [e4]; exact Nat.lt_succ_of_lt hb) ha, e4, get_alloc_ne (by omega)]
theorem Grow.lit {lim : Nat} {h h1 : AH} {elem : TypeId} {sz n : Nat} {cs : List Value} (e1 : h1 = h.alloc (.cells cs elem false)) (hl : cs.length = n * sz) (hlim : lim ≤ h.next) : Grow lim h1 elem sz (some ⟨h.next, 0, none⟩) n n cs := by
 subst e1
 exact ⟨hl, .inr ⟨h.next, rfl, hlim, Nat.lt_succ_self _, get_alloc_next _ _, .inr rfl⟩⟩
theorem Shows.get {h : AH} {p : Option Addr} {n : Nat} {cs : List Value} (s : Shows h p n 1 cs) {i : Nat} (hi : i < n) : ∃ b off, p = some ⟨b, off, none⟩ ∧ ld1 h b (off + i) = cs[i]? := by
 rcases s.2 with h0 | ⟨b, off, al, e, ro, hp, hb, hg, hl, hc⟩
 ·omega
 ·refine ⟨b, off, hp, ?_⟩
  rw [ld1_of hg, ← hc, List.getElem?_take, if_pos (by omega), List.getElem?_drop]
theorem Shows.getN {h : AH} {p : Option Addr} {n sz : Nat} {cs : List Value} (s : Shows h p n sz cs) {i : Nat} (hi : i < n) : ∃ b off, p = some ⟨b, off, none⟩ ∧ ldN h b (off + i * sz) sz = some ((cs.drop (i * sz)).take sz) ∧ ∀ j, j < sz → ld1 h b (off + i * sz + j) = cs[i * sz + j]? := by
 rcases s.2 with h0 | ⟨b, off, al, e, ro, hp, hb, hg, hl, hc⟩
 ·omega
 ·have hle : i * sz + sz ≤ n * sz := by rw [← Nat.succ_mul]; exact Nat.mul_le_mul_right _ hi
  refine ⟨b, off, hp, ?_, fun j hj => ?_⟩
  ·rw [ldN_of hg (by omega), ← hc]
   congr 1
   apply List.ext_getElem?
   intro j
   simp only [List.getElem?_take, List.getElem?_drop]
   split
   ·rw [if_pos (by omega)]; congr 1; omega
   ·rfl
  ·rw [ld1_of hg, ← hc, List.getElem?_take, if_pos (by omega), List.getElem?_drop]
   congr 1; omega
end Go.Am
/-
 CONTRACTS: the map of sectors, plain: states, how many of each slab are free.
-/
set_option linter.unusedVariables false
set_option linter.unusedSimpArgs false
namespace Go.Am
theorem derefP_at {b off : Nat} {k : Nat → Nat → Prop} (w : k b off) : derefP (some ⟨b, off, none⟩) k := w
theorem Near.refl (b : Nat) (h : AH) : Near b h h := ⟨rfl, fun _ _ => rfl⟩
theorem Near.trans {b : Nat} {h1 h2 h3 : AH} (x : Near b h1 h2) (y : Near b h2 h3) : Near b h1 h3 := ⟨y.1.trans x.1, fun c hc => by rw [y.2 c hc, x.2 c hc]⟩
def cnt (M : List Nat) (k : Nat) : Nat := ((M.drop (64 * k)).take 64).count 1
def cnts (M : List Nat) : List Nat := (List.range 16).map (cnt M)
def mapC (M rm : List Nat) : List Value := natC .u8 M ++ natC .i64 rm
def MapAt (ty : TypeId) (h : AH) (b : Nat) (M : List Nat) : Prop := M.length = 1024 ∧ b < h.next ∧ h.get b = some (.cells (mapC M (cnts M)) ty false)
theorem MapAt.near {ty : TypeId} {h h' : AH} {b c : Nat} {M : List Nat} (m : MapAt ty h b M) (n : Near c h h') (hc : b ≠ c) : MapAt ty h' b M := ⟨m.1, by rw [n.1]; exact m.2.1, by rw [n.2 b hc]; exact m.2.2⟩
theorem MapAt.same {ty : TypeId} {h h' : AH} {b : Nat} {M : List Nat} (m : MapAt ty h b M) (hn : h.next ≤ h'.next) (hg : h'.get b = h.get b) : MapAt ty h' b M := ⟨m.1, Nat.lt_of_lt_of_le m.2.1 hn, by rw [hg]; exact m.2.2⟩
end Go.Am
/-
 CONTRACTS: values that are built, copies, frames of several blocks.
-/
set_option linter.unusedVariables false
set_option linter.unusedSimpArgs false
namespace Go.Am
def Fr (F : List Nat) (h h' : AH) (F' : List Nat) : Prop := h.next ≤ h'.next ∧ (∀ c, c < h.next → c ∉ F → h'.get c = h.get c) ∧ (∀ c ∈ F', c ∈ F ∨ h.next ≤ c)
theorem Fr.refl (F : List Nat) (h : AH) : Fr F h h F := ⟨Nat.le_refl _, fun _ _ _ => rfl, fun _ hc => .inl hc⟩
theorem Fr.trans {F F' F'' : List Nat} {h1 h2 h3 : AH} (a : Fr F h1 h2 F') (b : Fr F' h2 h3 F'') : Fr F h1 h3 F'' :=
 ⟨Nat.le_trans a.1 b.1, fun c hc hn => by
   rw [b.2.1 c (Nat.lt_of_lt_of_le hc a.1) (fun q => (a.2.2 c q).elim hn (fun q => absurd hc (by omega))), a.2.1 c hc hn],
 fun c hc => by
  rcases b.2.2 c hc with q | q
  ·exact a.2.2 c q
  ·exact .inr (Nat.le_trans a.1 q)⟩
theorem Old.fr {h h' : AH} (o : Old h h') (F : List Nat) : Fr F h h' F := ⟨o.1, fun c hc _ => o.2 c hc, fun _ hc => .inl hc⟩
theorem Near.fr {b : Nat} {h h' : AH} (n : Near b h h') {F : List Nat} (hb : b ∈ F) : Fr F h h' F := ⟨by rw [n.1]; exact Nat.le_refl _, fun c hc hn => n.2 c (fun q => hn (q ▸ hb)), fun _ hc => .inl hc⟩
theorem Fr.next {F F' : List Nat} {h h' : AH} (f : Fr F h h' F') : h.next ≤ h'.next := f.1
theorem Shows.fr {F F' : List Nat} {h h' : AH} {p : Option Addr} {n sz : Nat} {cs : List Value} (s : Shows h p n sz cs) (f : Fr F h h' F') (ha : ∀ a, p = some a → a.block ∉ F) : Shows h' p n sz cs := by
 refine ⟨s.1, ?_⟩
 rcases s.2 with h0 | ⟨b, off, al, e, ro, hp, hb, hg, hl, hc⟩
 ·exact .inl h0
 ·exact .inr ⟨b, off, al, e, ro, hp, Nat.lt_of_lt_of_le hb f.1, by rw [f.2.1 b hb (ha _ hp)]; exact hg, hl, hc⟩
def bl (p : Option Addr) : List Nat := match p with | some a => [a.block] | none => []
end Go.Am
namespace Go.Am
/-! ## What a value reads as, as a key -/
theorem aKey_int {P : Program} {t : TypeId} {q : IntKind} (hu : P.underlying t = some (.int q)) (d : Nat) (n : Int) : P.keyLits (d + 1) t [.int q n] = if (Lit.int q n).wf = true then some [.int q n] else none := by
 rw [Program.keyLits.eq_def]
 dsimp only
 rw [hu]
 simp
theorem aKey_string {P : Program} {t : TypeId} (hu : P.underlying t = some .string) (d : Nat) (s : ByteArray) : P.keyLits (d + 1) t [.string s] = if s.size ≤ maxLen then some [.string s.data.toList] else none := by
 rw [Program.keyLits.eq_def]
 dsimp only
 rw [hu]
theorem aKey_struct {P : Program} {t : TypeId} {fs : Array Field} (hu : P.underlying t = some (.struct fs)) (d : Nat) (cs : List Value) :
 P.keyLits (d + 1) t cs = if cs.length = P.cellsOf t ∧ fs.all (·.name != "_") = true then (fs.toList.mapM fun f => P.keyLits d f.type ((cs.drop f.offset).take (P.cellsOf f.type))).map List.flatten else none := by
 rw [Program.keyLits.eq_def]
 dsimp only
 rw [hu]
theorem lits3 {a b c x y z : Int} {k1 k2 k3 : IntKind} : litsEq [.int k1 a, .int k2 b, .int k3 c] [.int k1 x, .int k2 y, .int k3 z] = decide (a = x ∧ b = y ∧ c = z) := by
 by_cases h1 : a = x <;> by_cases h2 : b = y <;> by_cases h3 : c = z <;> simp [litsEq, litEq, h1, h2, h3]
theorem aKey_eq {P : Program} {t : TypeId} {cs : Array Value} (hf : (Value.agg cs).formed P t = true) : keyA P t (.agg cs) = P.keyLits 40 t cs.toList := by
 unfold keyA
 rw [hf, cond_true]
 simp only [Value.cells]
theorem aKey_structN {P : Program} {t : TypeId} {fs : Array Field} (hu : P.underlying t = some (.struct fs)) {n d : Nat} (hn : n = d + 1) (cs : List Value) :
 P.keyLits n t cs = if cs.length = P.cellsOf t ∧ fs.all (·.name != "_") = true then (fs.toList.mapM fun f => P.keyLits d f.type ((cs.drop f.offset).take (P.cellsOf f.type))).map List.flatten else none := by
 subst hn
 exact aKey_struct hu d cs
theorem aKey_intN {P : Program} {t : TypeId} {q : IntKind} (hu : P.underlying t = some (.int q)) {m d : Nat} (hn : m = d + 1) (n : Int) : P.keyLits m t [.int q n] = if (Lit.int q n).wf = true then some [.int q n] else none := by
 subst hn
 exact aKey_int hu d n
theorem aKey_stringN {P : Program} {t : TypeId} (hu : P.underlying t = some .string) {m d : Nat} (hn : m = d + 1) (s : ByteArray) : P.keyLits m t [.string s] = if s.size ≤ maxLen then some [.string s.data.toList] else none := by
 subst hn
 exact aKey_string hu d s
end Go.Am
/-
 ARGUMENTS READ AS TREES. What memory's reading (DataW.trod) says of an argument becomes blocks of the abstract machine, one a slice, all read only; what stands in them is told by `Rd` (by the type).
-/
set_option linter.unusedVariables false
set_option linter.unusedSimpArgs false
namespace Go.Am
open Go.ChangeShapes Go.WideShapes
section
variable (P : Program)
def RdL (f : TypeId → List Value → Prop) : List TypeId → List Value → Prop
 | [], cs => cs = []
 | t :: ts, cs => P.cellsOf t ≤ cs.length ∧ f t (cs.take (P.cellsOf t)) ∧ RdL f ts (cs.drop (P.cellsOf t))
def Rd (h : AH) : Nat → TypeId → List Value → Prop
 | 0, _, _ => False
 | g + 1, t, cs => match P.underlying t with
   | some .bool => ∃ b, cs = [.bool b]
   | some (.int k) => ∃ n, cs = [.int k n] ∧ (Lit.int k n).wf = true
   | some .string => ∃ s, cs = [.string s] ∧ s.size ≤ maxLen ∧ s.size ≤ reachBytes
   | some (.slice e) => ∃ p n c al, cs = [.slice p n c] ∧ (p = none ∨ ∃ b off, p = some ⟨b, off, none⟩) ∧ (n ≤ maxLen ∧ (0 < n → n ≤ c ∧ c < openCap)) ∧ n * P.bytesOf e ≤ reachBytes ∧ Shows h p n (P.cellsOf e) al ∧ RdL P (Rd h g) (List.replicate n e) al
   | some (.struct fs) => RdL P (Rd h g) (fs.toList.map (·.type)) cs
   | some (.array n e) => RdL P (Rd h g) (List.replicate n e) cs
   | _ => False
def tilesB : Nat → List Field → Nat → Bool
 | a, [], n => a == n
 | a, f :: fs, n => f.offset == a && tilesB (a + P.cellsOf f.type) fs n
def okT : Nat → TypeId → Bool
 | 0, _ => false
 | g + 1, t => match P.underlying t with
   | some .bool | some (.int _) | some .string => P.cellsOf t == 1
   | some (.slice e) => P.cellsOf t == 1 && Nat.blt 0 (P.cellsOf e) && okT g e
   | some (.struct fs) => tilesB P 0 fs.toList (P.cellsOf t) && fs.toList.all fun f => okT g f.type
   | some (.array n e) => P.cellsOf t == n * P.cellsOf e && okT g e
   | _ => false
end
section
variable {P : Program}
theorem RdL.mono {f f' : TypeId → List Value → Prop} (hf : ∀ t cs, f t cs → f' t cs) : ∀ {ts : List TypeId} {cs : List Value}, RdL P f ts cs → RdL P f' ts cs
 | [], _, k => k
 | _ :: _, _, k => ⟨k.1, hf _ _ k.2.1, RdL.mono hf k.2.2⟩
theorem RdL.rep {f : TypeId → List Value → Prop} {e : TypeId} : ∀ {n : Nat} {cs : List Value}, RdL P f (List.replicate n e) cs → cs.length = n * P.cellsOf e ∧ ∀ i, i < n → f e ((cs.drop (i * P.cellsOf e)).take (P.cellsOf e))
 | 0, cs, k => ⟨by rw [show cs = [] from k]; simp, fun i hi => absurd hi (Nat.not_lt_zero _)⟩
 | n + 1, cs, k => by
   obtain ⟨k1, k2, k3⟩ := k
   obtain ⟨r1, r2⟩ := RdL.rep (n := n) k3
   rw [List.length_drop] at r1
   refine ⟨by rw [Nat.add_mul]; omega, fun i hi => ?_⟩
   cases i with
   | zero => simpa using k2
   | succ i =>
     have := r2 i (by omega)
     rw [List.drop_drop] at this
     rw [show (i + 1) * P.cellsOf e = P.cellsOf e + i * P.cellsOf e by rw [Nat.add_mul]; omega]
     exact this
theorem Rd.mono {h h' : AH} (o : Old h h') : ∀ (g : Nat) (t : TypeId) (cs : List Value), Rd P h g t cs → Rd P h' g t cs
 | 0, _, _, k => k
 | g + 1, t, cs, k => by
   unfold Rd at k ⊢
   split <;> rename_i hu <;> simp only [hu] at k
   ·exact k
   ·exact k
   ·exact k
   ·obtain ⟨p, n, c, al, k1, k2, k3, k3b, k4, k5⟩ := k
    exact ⟨p, n, c, al, k1, k2, k3, k3b, k4.old o, k5.mono (Rd.mono o g)⟩
   ·exact k.mono (Rd.mono o g)
   ·exact k.mono (Rd.mono o g)
end

section
variable {P : Program} {w : World} {φ : Fi} {h : AH}
structure St (P : Program) (φ : Fi) (h : AH) (w : World) : Prop where
 rel : R P φ h w
 ro : AllRo h
 free : ∀ b, h.next ≤ b → φ b = none
theorem St.empty (w : World) : St P (fun _ => none) ⟨.nil, 0⟩ w := ⟨R.empty 0, fun b o hb => by simp [AH.get, Tr.get_nil] at hb, fun _ _ => rfl⟩
def named (φ : Fi) (b : Nat) (r : Rec) : Fi := fun c => if c = b then some r else φ c
theorem named_le {b : Nat} {r : Rec} (hb : φ b = none) : Le φ (named φ b r) := by
 intro c q e
 unfold named
 by_cases hc : c = b
 ·subst hc; rw [hb] at e; cases e
 ·rw [if_neg hc]; exact e
theorem named_self {b : Nat} {r : Rec} : named φ b r b = some r := if_pos rfl
theorem St.block (s : St P φ h w) {B : Nat} {C : Array Value} {e : TypeId} {m : Nat × Nat} (hw : w.heap[B]? = some (.cells C e m)) {off len : Nat} (hl : off + len ≤ C.size) {al : List Value} (hlr : LR φ al ((C.toList.drop off).take len)) :
 St P (named φ h.next ⟨B, off, C.size, P.cellsOf e⟩) (h.alloc (.cells al e true)) w := by
 have hle := named_le (r := ⟨B, off, C.size, P.cellsOf e⟩) (s.free h.next (Nat.le_refl _))
 refine ⟨⟨fun b o r hb hr => ?_, fun b1 b2 o1 o2 r1 r2 h1 h2 k1 k2 he => ?_, fun b o hb => ?_⟩, fun b o hb => ?_, fun b hb => ?_⟩
 ·rw [AH.get_alloc] at hb
  by_cases hbn : b = h.next
  ·subst hbn
   rw [if_pos rfl] at hb
   cases hb
   rw [named_self] at hr
   cases hr
   refine ⟨_, hw, rfl, rfl, rfl, ⟨C.toList.take off, (C.toList.drop off).take len, (C.toList.drop off).drop len, ?_, ?_, hlr.mono hle⟩, fun z => by cases z⟩
   ·rw [List.append_assoc, List.take_append_drop, List.take_append_drop]
   ·rw [List.length_take]; simp; omega
  ·rw [if_neg hbn] at hb
   unfold named at hr
   rw [if_neg hbn] at hr
   obtain ⟨o', q1, q2⟩ := s.rel.obj b o r hb hr
   exact ⟨o', q1, q2.mono hle⟩
 ·refine .inr ⟨?_, ?_⟩
  ·rw [AH.get_alloc] at h1
   by_cases hbn : b1 = h.next
   ·rw [if_pos hbn] at h1; cases h1; rfl
   ·rw [if_neg hbn] at h1; exact s.ro _ _ h1
  ·rw [AH.get_alloc] at h2
   by_cases hbn : b2 = h.next
   ·rw [if_pos hbn] at h2; cases h2; rfl
   ·rw [if_neg hbn] at h2; exact s.ro _ _ h2
 ·rw [AH.get_alloc] at hb
  show b < h.next + 1
  by_cases hbn : b = h.next
  ·omega
  ·rw [if_neg hbn] at hb
   have := s.rel.lt b o hb
   omega
 ·rw [AH.get_alloc] at hb
  by_cases hbn : b = h.next
  ·rw [if_pos hbn] at hb; cases hb; rfl
  ·rw [if_neg hbn] at hb; exact s.ro _ _ hb
 ·have hb : h.next + 1 ≤ b := hb
  unfold named
  rw [if_neg (by omega)]
  exact s.free b (by omega)
theorem St.name (s : St P φ h w) (r : Rec) : St P (named φ h.next r) ⟨h.tr, h.next + 1⟩ w := by
 have hle := named_le (r := r) (s.free h.next (Nat.le_refl _))
 refine ⟨⟨fun b o r' hb hr => ?_, fun b1 b2 o1 o2 r1 r2 h1 h2 k1 k2 he => .inr ⟨s.ro _ _ h1, s.ro _ _ h2⟩, fun b o hb => ?_⟩, fun b o hb => s.ro b o hb, fun b hb => ?_⟩
 ·have hb : h.get b = some o := hb
  have hbn : b ≠ h.next := by have := s.rel.lt b o hb; omega
  unfold named at hr
  rw [if_neg hbn] at hr
  obtain ⟨o', q1, q2⟩ := s.rel.obj b o r' hb hr
  exact ⟨o', q1, q2.mono hle⟩
 ·have := s.rel.lt b o hb
  show b < h.next + 1
  omega
 ·have hb : h.next + 1 ≤ b := hb
  unfold named
  rw [if_neg (by omega)]
  exact s.free b (by omega)
structure Ext (P : Program) (w : World) (φ : Fi) (h : AH) (φ' : Fi) (h' : AH) : Prop where
 le : Le φ φ'
 old : Old h h'
 st : St P φ' h' w
theorem Ext.refl (s : St P φ h w) : Ext P w φ h φ h := ⟨Le.refl _, Old.refl _, s⟩
theorem Ext.trans {φ2 φ3 : Fi} {h2 h3 : AH} (a : Ext P w φ h φ2 h2) (b : Ext P w φ2 h2 φ3 h3) : Ext P w φ h φ3 h3 := ⟨a.le.trans b.le, a.old.trans b.old, b.st⟩

theorem cells_block {a : Addr} {n : Nat} {cs : List Value} (hc : w.cells? 0 a n = some cs) (hn : 0 < n) :
 a.spot = none ∧ ∃ C e m, w.heap[a.block]? = some (.cells C e m) ∧ a.off + n ≤ C.size ∧ cs = (C.toList.drop a.off).take n := by
 obtain ⟨-, hl, hi⟩ := World.cells?_some hc
 have h0 := hi 0 hn
 rw [List.getElem?_eq_getElem (by omega)] at h0
 simp only [Addr.add, if_true] at h0
 have hC : ∃ C e m, w.heap[a.block]? = some (.cells C e m) ∧ a.spot = none := by
  unfold World.cell? at h0
  cases hb : w.heap[a.block]? with
  | none => simp [hb] at h0
  | some o =>
    simp only [hb] at h0
    cases o <;> simp at h0
    exact ⟨_, _, _, rfl, h0.1⟩
 obtain ⟨C, e, m, hb, hsp⟩ := hC
 have hcell : ∀ i, i < n → C[a.off + i]? = cs[i]? := by
  intro i hin
  have := hi i hin
  unfold World.cell? Addr.add at this
  by_cases h0 : i = 0
  ·subst h0
   simpa [hb, hsp] using this
  ·simpa [hb, h0] using this
 have hsz : a.off + n ≤ C.size := by
  have := hcell (n - 1) (by omega)
  rw [List.getElem?_eq_getElem (by omega)] at this
  have := (Array.getElem?_eq_some_iff.1 this).1
  omega
 refine ⟨hsp, C, e, m, hb, hsz, List.ext_getElem? fun i => ?_⟩
 rw [List.getElem?_take]
 split
 ·rename_i hin
  rw [List.getElem?_drop]
  exact (hcell i hin).symm.trans Array.getElem?_toList.symm
 ·rw [List.getElem?_eq_none (by omega)]

variable {H : Type} {enc : TypeId × Value → H} {held : Bool}
def Tr1 (enc : TypeId × Value → H) (P : Program) (w : World) (held : Bool) (t : TypeId) (cs : List Value) : Prop := ∃ fuel x, DataW.trod enc P w 0 (fun _ => true) held fuel t cs = some x ∧ (x.1.weights P t).all (· ≤ reachBytes) = true
theorem weightsAll_mem {e : TypeId} : ∀ {ds : List (DataW H)}, (DataW.weightsAll P e ds).all (· ≤ reachBytes) = true → ∀ d ∈ ds, (d.weights P e).all (· ≤ reachBytes) = true
 | d :: ds, k, x, hx => by
   rw [DataW.weightsAll, List.all_append, Bool.and_eq_true] at k
   rw [List.mem_cons] at hx
   rcases hx with rfl | hx
   ·exact k.1
   ·exact weightsAll_mem k.2 x hx
theorem weightsEach_at : ∀ {ts : List TypeId} {ds : List (DataW H)}, (DataW.weightsEach P ts ds).all (· ≤ reachBytes) = true → ∀ (i : Nat) (t : TypeId) (d : DataW H), ts[i]? = some t → ds[i]? = some d → (d.weights P t).all (· ≤ reachBytes) = true
 | t :: ts, d :: ds, k, i, t', d', h1, h2 => by
   rw [DataW.weightsEach, List.all_append, Bool.and_eq_true] at k
   cases i with
   | zero => simp only [List.getElem?_cons_zero, Option.some.injEq] at h1 h2; subst h1 h2; exact k.1
   | succ i => exact weightsEach_at k.2 i t' d' (by simpa using h1) (by simpa using h2)
theorem tiles_le : ∀ (fs : List Field) (a n : Nat), tilesB P a fs n = true → a ≤ n
 | [], a, n, k => by simp only [tilesB, beq_iff_eq] at k; omega
 | f :: fs, a, n, k => by
   simp only [tilesB, Bool.and_eq_true, beq_iff_eq] at k
   have := tiles_le fs _ n k.2
   omega
theorem tiles_rdl {F : TypeId → List Value → Prop} {cs : List Value} : ∀ (fs : List Field) (a : Nat), tilesB P a fs cs.length = true → (∀ f ∈ fs, F f.type ((cs.drop f.offset).take (P.cellsOf f.type))) → RdL P F (fs.map (·.type)) (cs.drop a)
 | [], a, k, _ => by
   simp only [tilesB, beq_iff_eq] at k
   exact List.drop_eq_nil_of_le (by omega)
 | f :: fs, a, k, hf => by
   simp only [tilesB, Bool.and_eq_true, beq_iff_eq] at k
   have hle := tiles_le fs _ _ k.2
   refine ⟨by show P.cellsOf f.type ≤ _; rw [List.length_drop]; omega, by have := hf f (List.mem_cons_self); rw [k.1] at this; exact this, ?_⟩
   rw [List.drop_drop]
   exact tiles_rdl fs _ k.2 fun g hg => hf g (List.mem_cons_of_mem _ hg)
theorem rep_rdl {F : TypeId → List Value → Prop} {e : TypeId} : ∀ (n : Nat) (cs : List Value), cs.length = n * P.cellsOf e → (∀ i, i < n → F e ((cs.drop (i * P.cellsOf e)).take (P.cellsOf e))) → RdL P F (List.replicate n e) cs
 | 0, cs, hl, _ => List.eq_nil_of_length_eq_zero (by omega)
 | n + 1, cs, hl, hf => by
   rw [Nat.add_mul] at hl
   refine ⟨by omega, by simpa using hf 0 (by omega), rep_rdl n _ (by rw [List.length_drop]; omega) fun i hi => ?_⟩
   have := hf (i + 1) (by omega)
   rw [List.drop_drop]
   rw [show (i + 1) * P.cellsOf e = P.cellsOf e + i * P.cellsOf e by rw [Nat.add_mul]; omega] at this
   exact this
theorem rows {g : Nat} (ih : ∀ (t : TypeId) (cs : List Value) (φ : Fi) (h : AH), okT P g t = true → Tr1 enc P w held t cs → St P φ h w → ∃ φ' h' acs, Ext P w φ h φ' h' ∧ LR φ' acs cs ∧ Rd P h' g t acs) :
 ∀ (ts : List TypeId) (cs : List Value) (φ : Fi) (h : AH), (∀ t ∈ ts, okT P g t = true) → RdL P (Tr1 enc P w held) ts cs → St P φ h w → ∃ φ' h' acs, Ext P w φ h φ' h' ∧ LR φ' acs cs ∧ RdL P (Rd P h' g) ts acs
 | [], cs, φ, h, _, k, s => ⟨φ, h, [], Ext.refl s, by rw [show cs = [] from k]; trivial, rfl⟩
 | t :: ts, cs, φ, h, ho, k, s => by
   obtain ⟨k1, k2, k3⟩ := k
   obtain ⟨φ1, h1, a1, e1, l1, r1⟩ := ih t _ φ h (ho t List.mem_cons_self) k2 s
   obtain ⟨φ2, h2, a2, e2, l2, r2⟩ := rows ih ts _ φ1 h1 (fun u hu => ho u (List.mem_cons_of_mem _ hu)) k3 e1.st
   have hl1 : a1.length = P.cellsOf t := by rw [l1.length, List.length_take]; omega
   refine ⟨φ2, h2, a1 ++ a2, e1.trans e2, ?_, ?_⟩
   ·have := (l1.mono e2.le).append l2
    rwa [List.take_append_drop] at this
   ·refine ⟨by rw [List.length_append]; omega, ?_, ?_⟩
    ·rw [← hl1, List.take_left]; exact r1.mono e2.old
    ·rw [← hl1, List.drop_left]; exact r2
theorem lr_one {φ : Fi} {v v' : Value} (r : VR φ v v') (hm : isMulti v = false) : LR φ [v] [v'] := ⟨r, hm, trivial⟩
theorem tread : ∀ (g : Nat) (t : TypeId) (cs : List Value) (φ : Fi) (h : AH), okT P g t = true → Tr1 enc P w held t cs → St P φ h w → ∃ φ' h' acs, Ext P w φ h φ' h' ∧ LR φ' acs cs ∧ Rd P h' g t acs
 | 0, t, cs, φ, h, ho, _, _ => by simp [okT] at ho
 | g + 1, t, cs, φ, h, ho, ⟨fuel, x, hx, hwt⟩, s => by
   unfold okT at ho
   split at ho
   ·rename_i hu
    obtain ⟨b, rfl, -⟩ := DataW.trod_bool hu hx
    exact ⟨φ, h, [.bool b], Ext.refl s, lr_one (.bool b) rfl, by unfold Rd; simp [hu]⟩
   ·rename_i k hu
    obtain ⟨n, rfl, -, hw⟩ := DataW.trod_int hu hx
    exact ⟨φ, h, [.int k n], Ext.refl s, lr_one (.int k n) rfl, by unfold Rd; simp only [hu]; exact ⟨n, rfl, hw⟩⟩
   ·rename_i hu
    obtain ⟨b, rfl, rfl, hw⟩ := DataW.trod_string hu hx
    have hb2 : b.size ≤ reachBytes := by
     simp only [DataW.weights, List.all_cons, List.all_nil, Bool.and_true, decide_eq_true_eq, Array.length_toList] at hwt
     exact hwt
    exact ⟨φ, h, [.string b], Ext.refl s, lr_one (.string b) rfl, by unfold Rd; simp only [hu]; exact ⟨b, rfl, hw, hb2⟩⟩
   ·rename_i e hu
    simp only [Bool.and_eq_true, beq_iff_eq, Nat.blt_eq] at ho
    obtain ⟨⟨ho1, ho2⟩, ho3⟩ := ho
    rcases DataW.trod_slice hu hx with ⟨rfl, -⟩ | ⟨a, n, c, elems, rest, m, rfl, rfl, rfl, -, hnc, hc, hel, hE, hR, -⟩
    ·exact ⟨φ, h, [.slice none 0 0], Ext.refl s, lr_one (.sliceNil 0 0 (by decide)) rfl, by unfold Rd; simp only [hu]; exact ⟨none, 0, 0, [], rfl, .inl rfl, ⟨Nat.zero_le _, fun z => absurd z (Nat.lt_irrefl _)⟩, by simp, ⟨by simp, .inl rfl⟩, rfl⟩⟩
    obtain ⟨hrl, hR⟩ := hR rfl
    rw [DataW.weights, hu] at hwt
    simp only [List.all_cons, List.all_append, Bool.and_eq_true, decide_eq_true_eq, List.length_map] at hwt
    obtain ⟨hw0, hw1, hw2⟩ := hwt
    have hnb : n * P.bytesOf e ≤ reachBytes := Nat.le_trans (Nat.mul_le_mul_right _ (by omega)) hw0
    rcases Nat.eq_zero_or_pos c with hc0 | hc0
    ·have hn0 : n = 0 := by omega
     subst hc0 hn0
     refine ⟨named φ h.next ⟨0, 1, 0, 0⟩, ⟨h.tr, h.next + 1⟩, [.slice (some ⟨h.next, 0, none⟩) 0 openCap], ⟨named_le (s.free _ (Nat.le_refl _)), ⟨Nat.le_succ _, fun _ _ => rfl⟩, s.name _⟩, lr_one (.sliceE named_self (.inr (by decide))) rfl, ?_⟩
     unfold Rd
     simp only [hu]
     exact ⟨_, 0, openCap, [], rfl, .inr ⟨_, _, rfl⟩, ⟨Nat.zero_le _, fun z => absurd z (Nat.lt_irrefl _)⟩, by simp, ⟨by simp, .inl rfl⟩, rfl⟩
    have hat : ∀ i, i < c → ∃ csi y, w.cells? 0 (a.add (i * P.cellsOf e)) (P.cellsOf e) = some csi ∧ DataW.trod enc P w 0 (fun _ => true) held m e csi = some y ∧ (y.1.weights P e).all (· ≤ reachBytes) = true := by
     intro i hi
     have : ∃ y, (w.cells? 0 (a.add (i * P.cellsOf e)) (P.cellsOf e)).bind (DataW.trod enc P w 0 (fun _ => true) held m e) = some y ∧ (y.1.weights P e).all (· ≤ reachBytes) = true := by
      by_cases hin : i < n
      ·exact ⟨elems[i]'(by omega), by rw [hE i hin, List.getElem?_eq_getElem], weightsAll_mem hw1 _ (List.mem_map_of_mem (List.getElem_mem _))⟩
      ·obtain ⟨j, rfl⟩ : ∃ j, i = n + j := ⟨i - n, by omega⟩
       exact ⟨rest[j]'(by omega), by rw [hR j (by omega), List.getElem?_eq_getElem], weightsAll_mem hw2 _ (List.mem_map_of_mem (List.getElem_mem _))⟩
     obtain ⟨y, hy, hyw⟩ := this
     obtain ⟨csi, h1, h2⟩ := Option.bind_eq_some_iff.1 hy
     exact ⟨csi, y, h1, h2, hyw⟩
    have hblk : ∀ i, i < c → a.spot = none ∧ ∃ C e' mm, w.heap[a.block]? = some (.cells C e' mm) ∧ a.off + (i + 1) * P.cellsOf e ≤ C.size ∧ Tr1 enc P w held e ((C.toList.drop (a.off + i * P.cellsOf e)).take (P.cellsOf e)) := by
     intro i hi
     obtain ⟨csi, y, h1, h2, hyw⟩ := hat i hi
     obtain ⟨g1, C, e', mm, g2, g3, g4⟩ := cells_block h1 ho2
     have hbo : (a.add (i * P.cellsOf e)).block = a.block ∧ (a.add (i * P.cellsOf e)).off = a.off + i * P.cellsOf e := by
      unfold Addr.add
      split
      ·rename_i z; rw [z]; exact ⟨rfl, rfl⟩
      ·exact ⟨rfl, rfl⟩
     rw [hbo.1] at g2
     rw [hbo.2] at g3 g4
     have hsp : a.spot = none := by
      obtain ⟨cs0, y0, h10, -⟩ := hat 0 hc0
      have := (cells_block h10 ho2).1
      simpa [Addr.add] using this
     exact ⟨hsp, C, e', mm, g2, by rw [Nat.add_mul]; omega, m, y, by rw [← g4]; exact h2, hyw⟩
    obtain ⟨hsp, C, e', mm, hC, -, -⟩ := hblk 0 hc0
    have hsz : a.off + n * P.cellsOf e ≤ C.size := by
     rcases Nat.eq_zero_or_pos n with hn0 | hn0
     ·obtain ⟨-, C', _, _, q1, q2, -⟩ := hblk 0 hc0
      rw [hC] at q1; cases q1
      rw [hn0]; omega
     ·obtain ⟨-, C', _, _, q1, q2, -⟩ := hblk (n - 1) (by omega)
      rw [hC] at q1; cases q1
      rw [show n - 1 + 1 = n by omega] at q2
      exact q2
    have hml : ((C.toList.drop a.off).take (n * P.cellsOf e)).length = n * P.cellsOf e := by rw [List.length_take, List.length_drop]; simp; omega
    have hmid : RdL P (Tr1 enc P w held) (List.replicate n e) ((C.toList.drop a.off).take (n * P.cellsOf e)) := by
     refine rep_rdl n _ hml fun i hi => ?_
     obtain ⟨-, C', _, _, q1, q2, q3⟩ := hblk i (by omega)
     rw [hC] at q1; cases q1
     have hin : (i + 1) * P.cellsOf e ≤ n * P.cellsOf e := Nat.mul_le_mul_right _ hi
     rw [Nat.add_mul] at hin
     rw [List.drop_take, List.take_take, List.drop_drop, Nat.min_eq_left (by omega)]
     exact q3
    obtain ⟨φ1, h1, al, e1, l1, r1⟩ := rows (tread g) (List.replicate n e) _ φ h (fun u hu => by rw [List.mem_replicate] at hu; rw [hu.2]; exact ho3) hmid s
    have hal : al.length = n * P.cellsOf e := by rw [l1.length, hml]
    refine ⟨_, _, [.slice (some ⟨h1.next, 0, none⟩) n c], e1.trans ⟨named_le (e1.st.free _ (Nat.le_refl _)), Old_alloc _ _, e1.st.block hC hsz l1⟩, lr_one ?_ rfl, ?_⟩
    ·have hco : c < openCap := by
      have : maxLen = 9223372036854775807 := by decide
      simp only [openCap]; omega
     obtain ⟨ab, ao, asp⟩ := a
     simp only at hsp
     subst hsp
     exact VR.slice named_self (hco)
    ·unfold Rd
     simp only [hu]
     refine ⟨_, n, c, al, rfl, .inr ⟨_, _, rfl⟩, ⟨by omega, fun _ => ⟨hnc, (show c < openCap from Nat.lt_of_le_of_lt hc (by decide))⟩⟩, hnb, ⟨hal, .inr ⟨_, 0, al, _, true, rfl, Nat.lt_succ_self _, get_alloc_next _ _, by omega, ?_⟩⟩, r1.mono (Rd.mono (Old_alloc _ _) g)⟩
     rw [List.drop_zero, ← hal, List.take_length]
   ·rename_i fs hu
    simp only [Bool.and_eq_true, List.all_eq_true] at ho
    obtain ⟨ho1, ho2⟩ := ho
    obtain ⟨xs, m, rfl, rfl, hl, hxl, hf⟩ := DataW.trod_struct hu hx
    rw [DataW.weights, hu] at hwt
    simp only at hwt
    rw [← hl] at ho1
    have hr : RdL P (Tr1 enc P w held) (fs.toList.map (·.type)) (cs.drop 0) := tiles_rdl fs.toList 0 ho1 fun f hfm => by
     obtain ⟨i, hi, hfi⟩ := List.mem_iff_getElem.1 hfm
     have hfi' : fs[i]? = some f := by rw [← Array.getElem?_toList, List.getElem?_eq_getElem hi, hfi]
     have := hf i f hfi'
     have hix : i < xs.length := by rw [hxl]; simpa using hi
     rw [List.getElem?_eq_getElem hix] at this
     exact ⟨m, _, this, weightsEach_at hwt i f.type _ (by rw [List.getElem?_map, List.getElem?_eq_getElem hi, hfi]; rfl) (by rw [List.getElem?_map, List.getElem?_eq_getElem hix]; rfl)⟩
    rw [List.drop_zero] at hr
    obtain ⟨φ1, h1, al, e1, l1, r1⟩ := rows (tread g) _ _ φ h (fun u hu => by obtain ⟨f, hf, rfl⟩ := List.mem_map.1 hu; exact ho2 f hf) hr s
    exact ⟨φ1, h1, al, e1, l1, by unfold Rd; simp only [hu]; exact r1⟩
   ·rename_i n e hu
    simp only [Bool.and_eq_true, beq_iff_eq] at ho
    obtain ⟨ho1, ho2⟩ := ho
    obtain ⟨xs, m, rfl, rfl, hl, hxl, hf⟩ := DataW.trod_array hu hx
    rw [DataW.weights, hu] at hwt
    simp only at hwt
    have hr : RdL P (Tr1 enc P w held) (List.replicate n e) cs := rep_rdl n cs (by rw [hl, ho1]) fun i hi => by
     have := hf i hi
     rw [List.getElem?_eq_getElem (by omega)] at this
     exact ⟨m, _, this, weightsAll_mem hwt _ (List.mem_map_of_mem (List.getElem_mem _))⟩
    obtain ⟨φ1, h1, al, e1, l1, r1⟩ := rows (tread g) _ _ φ h (fun u hu => by rw [List.mem_replicate] at hu; rw [hu.2]; exact ho2) hr s
    exact ⟨φ1, h1, al, e1, l1, by unfold Rd; simp only [hu]; exact r1⟩
   ·exact absurd ho (by simp)
end
end Go.Am
/-
 ARGUMENTS, LAW BY LAW: all arguments of a call as values of the abstract machine; what was read is read again where nothing that was is another.
-/
set_option linter.unusedVariables false
set_option linter.unusedSimpArgs false
namespace Go.Am
open Go.ChangeShapes Go.WideShapes
section
variable {P : Program} {w : World} {φ : Fi} {h : AH} {H : Type} {enc : TypeId × Value → H}
def RdV (P : Program) (h : AH) (g : Nat) (t : TypeId) (v : Value) : Prop := match P.underlying t with
 | some (.struct _) | some (.array _ _) => ∃ cs, v = .agg cs.toArray ∧ Rd P h g t cs
 | _ => Rd P h g t [v]
def RdA (P : Program) (h : AH) (g : Nat) : List TypeId → List Value → Prop
 | [], [] => True
 | t :: ts, v :: vs => RdV P h g t v ∧ RdA P h g ts vs
 | _, _ => False
theorem RdV.mono {h' : AH} (o : Old h h') {g : Nat} {t : TypeId} {v : Value} (k : RdV P h g t v) : RdV P h' g t v := by
 unfold RdV at k ⊢
 cases hu : P.underlying t with
 | none => rw [hu] at k; exact Rd.mono o g _ _ k
 | some d =>
   rw [hu] at k
   cases d <;> first | exact Rd.mono o g _ _ k | exact k.imp fun cs z => ⟨z.1, Rd.mono o g _ _ z.2⟩
theorem arg_one {held : Bool} {base : Nat} {g : Nat} {t : TypeId} {v : Value} {d : DataW H} {ps : List MemPlace} (ho : okT P g t = true) (hv : Value.okWide P w .any base t v) (ht : DataW.Trod enc P w 0 (fun _ => true) held t v d ps) (hwt : (d.weights P t).all (· ≤ reachBytes) = true) (s : St P φ h w) :
 ∃ φ' h' a, Ext P w φ h φ' h' ∧ VR φ' a v ∧ RdV P h' g t a := by
 obtain ⟨fuel, hx⟩ := ht
 obtain ⟨φ', h', acs, e, l, r⟩ := tread g t _ φ h ho ⟨fuel, _, hx, hwt⟩ s
 unfold Value.okWide at hv
 unfold RdV
 have agg : (∃ cs : Array Value, v = .agg cs) → ∃ φ' h' a, Ext P w φ h φ' h' ∧ VR φ' a v ∧ ∃ cs, a = .agg (List.toArray cs) ∧ Rd P h' g t cs := by
  rintro ⟨cs, rfl⟩
  refine ⟨φ', h', .agg acs.toArray, e, LR.agg ?_, acs, rfl, r⟩
  simpa [Value.cells] using l
 have scal : (∀ cs : Array Value, v ≠ .agg cs) → ∃ φ' h' a, Ext P w φ h φ' h' ∧ VR φ' a v ∧ Rd P h' g t [a] := by
  intro hn
  have hc : v.cells.toList = [v] := by
   cases v <;> first | rfl | (rename_i cs; exact absurd rfl (hn cs))
  rw [hc] at l
  match acs, l, r with
  | [a], l, r => exact ⟨φ', h', a, e, l.1, r⟩
 cases g with
 | zero => simp [okT] at ho
 | succ g =>
   unfold okT at ho
   cases hu : P.underlying t with
   | none => rw [hu] at ho; exact absurd ho (by simp)
   | some dd =>
     rw [hu] at ho hv
     have sc : (∀ cs : Array Value, v = .agg cs → False) → ∃ φ' h' a, Ext P w φ h φ' h' ∧ VR φ' a v ∧ Rd P h' (g + 1) t [a] := fun z => scal z
     cases dd with
     | bool => exact sc fun cs hcs => by subst hcs; simp [hu, Cell.okWide, Cell.ok] at hv
     | int _ => exact sc fun cs hcs => by subst hcs; simp [hu, Cell.okWide, Cell.ok] at hv
     | string => exact sc fun cs hcs => by subst hcs; simp [hu, Cell.okWide, Cell.ok] at hv
     | slice _ => exact sc fun cs hcs => by subst hcs; simp [hu, Cell.okWide, Cell.ok] at hv
     | struct _ => exact agg (hv.imp fun _ z => z.1)
     | array _ _ => exact agg (hv.imp fun _ z => z.1)
     | _ => exact absurd ho (by simp)
theorem args_all {base g : Nat} : ∀ {ts : List TypeId} {vs : List Value} {ds : List (DataW H)} {ps : List MemPlace} {φ : Fi} {h : AH}, ts.all (okT P g) = true → (∀ (j : Nat) t v, ts[j]? = some t → vs[j]? = some v → Value.okWide P w .any base t v) →
 DataW.TrodAll enc P w 0 (fun _ => true) true ts vs ds ps → (DataW.weightsEach P ts ds).all (· ≤ reachBytes) = true → St P φ h w → ∃ φ' h' as, Ext P w φ h φ' h' ∧ AR φ' as vs ∧ RdA P h' g ts as
 | [], [], [], ps, φ, h, _, _, _, _, s => ⟨φ, h, [], Ext.refl s, trivial, trivial⟩
 | t :: ts, v :: vs, d :: ds, ps, φ, h, ho, hv, ⟨p, q, h1, h2, _⟩, hw, s => by
   rw [DataW.weightsEach, List.all_append, Bool.and_eq_true] at hw
   simp only [List.all_cons, Bool.and_eq_true] at ho
   obtain ⟨φ1, g1, a, e1, r1, k1⟩ := arg_one ho.1 (hv 0 t v rfl rfl) h1 hw.1 s
   obtain ⟨φ2, g2, as, e2, r2, k2⟩ := args_all ho.2 (fun j t' v' q1 q2 => hv (j + 1) t' v' q1 q2) h2 hw.2 e1.st
   exact ⟨φ2, g2, a :: as, e1.trans e2, ⟨r1.mono e2.le, r2⟩, k1.mono e2.old, k2⟩
theorem law_args (G : Good P) {K : Xs} (X : GoodX P K) {f : FuncId} (hk : K f = none) {base g : Nat} {ts : List TypeId} (ho : ts.all (okT P g) = true)
 (law : ∀ (h : AH) (as : List Value), RdA P h g ts as → Wf P K f as h (fun v _ => v = .bool true)) {args : Array Value} {ds : List (DataW H)} {ps : List MemPlace}
 (hv : ∀ (j : Nat) t v, ts[j]? = some t → args[j]? = some v → Value.okWide P w .any base t v) (hA : DataW.TrodAll enc P w 0 (fun _ => true) true ts args.toList ds ps) (hwt : (DataW.weightsEach P ts ds).all (· ≤ reachBytes) = true) :
 Calls P f args w fun e w' => e = .returned (.bool true) ∧ Kept w w' := by
 obtain ⟨φ, h, as, e, r, k⟩ := args_all ho (fun j t v q1 q2 => hv j t v q1 (by rw [← Array.getElem?_toList]; exact q2)) hA hwt (St.empty w)
 exact law_true G X hk (law h as k) e.st.rel e.st.free e.st.ro r
theorem Kept.sameAt {w w' : World} (k : Kept w w') {p : MemPlace} (hp : p.block < w.heap.size) : w.sameAt w' p := by
 obtain ⟨-, -, -, k⟩ := k
 cases p with
 | cell b off =>
   have := k b hp
   show w'.cell? ⟨b, off, none⟩ = w.cell? ⟨b, off, none⟩
   unfold World.cell?
   simp only [this]
 | map b => exact k b hp
theorem trodAll_kept (hl : laidOutB P = true) {W' : World} {sp : Nat → Bool} (hk : Kept w W') : ∀ {ts : List TypeId} {vs : List Value} {ds : List (DataW H)} {ps : List MemPlace},
 ts.all (fun t => P.readableRec t && Nat.blt t P.types.size) = true → DataW.TrodAll enc P w 0 (fun _ => true) true ts vs ds ps → (∀ p ∈ ps, p.block < w.heap.size) → (∀ p ∈ ps, sp p.block = true) → DataW.TrodAll enc P W' 0 sp true ts vs ds ps
 | [], [], [], ps, _, k, _, _ => k
 | t :: ts, v :: vs, d :: ds, ps, ho, ⟨p, q, h1, h2, he⟩, hlt, hsp => by
   subst he
   simp only [List.all_cons, Bool.and_eq_true, Nat.blt_eq] at ho
   exact ⟨p, q, WideElems.Trod_stays hl ho.1.1 ho.1.2 h1 (fun x hx => hk.sameAt (hlt x (List.mem_append_left _ hx))) (fun x hx => hsp x (List.mem_append_left _ hx)),
    trodAll_kept hl hk ho.2 h2 (fun x hx => hlt x (List.mem_append_right _ hx)) (fun x hx => hsp x (List.mem_append_right _ hx)), rfl⟩
theorem trodAll_len {base : Nat} {sp : Nat → Bool} {held : Bool} : ∀ {ts : List TypeId} {vs : List Value} {ds : List (DataW H)} {ps : List MemPlace}, DataW.TrodAll enc P w base sp held ts vs ds ps → ds.length = ts.length
 | [], [], [], _, _ => rfl
 | _ :: ts, _ :: vs, _ :: ds, _, ⟨_, _, _, h, _⟩ => by simp [trodAll_len h]
end
end Go.Am
/-
 CONTRACTS: slices with room behind them; numbers as bytes, the lower ones first.
-/
set_option linter.unusedVariables false
set_option linter.unusedSimpArgs false
namespace Go.Am
def GrowC (lim : Nat) (h : AH) (elem : TypeId) (sz b n c : Nat) (cs : List Value) : Prop :=
 cs.length = n * sz ∧ lim ≤ b ∧ b < h.next ∧ n ≤ c ∧ c < openCap ∧ ∃ rest, h.get b = some (.cells (cs ++ rest) elem false) ∧ (cs ++ rest).length = c * sz
theorem GrowC.shows {lim : Nat} {h : AH} {elem : TypeId} {sz b n c : Nat} {cs : List Value} (g : GrowC lim h elem sz b n c cs) : Shows h (some ⟨b, 0, none⟩) n sz cs := by
 obtain ⟨h1, h2, h3, h4, h5, rest, h6, h7⟩ := g
 refine ⟨h1, .inr ⟨b, 0, _, elem, false, rfl, h3, h6, by rw [h7, Nat.zero_add]; exact Nat.mul_le_mul_right _ h4, ?_⟩⟩
 rw [List.drop_zero, ← h1, List.take_left]
theorem GrowC.old {lim : Nat} {h h' : AH} {elem : TypeId} {sz b n c : Nat} {cs : List Value} (g : GrowC lim h elem sz b n c cs) (o : Old h h') : GrowC lim h' elem sz b n c cs := by
 obtain ⟨h1, h2, h3, h4, h5, rest, h6, h7⟩ := g
 exact ⟨h1, h2, Nat.lt_of_lt_of_le h3 o.1, h4, h5, rest, by rw [o.2 b h3, h6], h7⟩
theorem GrowC.make {h h1 : AH} {elem : TypeId} {sz c : Nat} {al : List Value} (e : h1 = h.alloc (.cells al elem false)) (hl : al.length = c * sz) (hc : c < openCap) : GrowC h.next h1 elem sz h.next 0 c [] := by
 subst e
 exact ⟨by simp, Nat.le_refl _, Nat.lt_succ_self _, Nat.zero_le _, hc, al, get_alloc_next _ _, hl⟩
theorem GrowC.push {P : Program} {lim : Nat} {h h4 : AH} {st elem : TypeId} {sz by' : Nat} {b n c : Nat} {cs : List Value} (g : GrowC lim h elem sz b n c cs) (E : ElemOk P st elem sz by')
 {m : Nat} {ns : List Value} (e4 : h4 = h.alloc (.cells ns elem false)) (hns : ns.length = m * sz) (hm : 0 < m) (hroom : n + m ≤ c) :
 ∃ h', aBuiltin P h4 .append #[st, st] [.slice (some ⟨b, 0, none⟩) n c, .slice (some ⟨h.next, 0, none⟩) m m] = some (.slice (some ⟨b, 0, none⟩) (n + m) c, h') ∧ GrowC lim h' elem sz b (n + m) c (cs ++ ns) ∧ h'.next = h.next + 1 ∧ ∀ x, x < h.next → x ≠ b → h'.get x = h.get x := by
 have gs := (g.old (h' := h4) (by rw [e4]; exact Old_alloc _ _)).shows
 obtain ⟨h1, h2, h3, h4', h5, rest, h6, h7⟩ := g
 obtain ⟨hu, i, z, hi, hz, hzs, hpos, rfl, rfl⟩ := E
 have hfc : firstC h4 i.size n (.slice (some ⟨b, 0, none⟩) n c) = some cs := gs.firstC (.inr ⟨b, 0, rfl⟩)
 have hfn : firstC h4 i.size m (.slice (some ⟨h.next, 0, none⟩) m m) = some ns := firstC_new e4 hns
 have hb4 : h4.get b = some (.cells (cs ++ rest) elem false) := by rw [e4, get_alloc_ne (by omega)]; exact h6
 rw [List.length_append] at h7
 have hns2 : ns.length ≤ rest.length := by
  have : (n + m) * i.size ≤ c * i.size := Nat.mul_le_mul_right _ hroom
  rw [Nat.add_mul] at this
  omega
 obtain ⟨m', rfl⟩ : ∃ m', m = m' + 1 := ⟨m - 1, by omega⟩
 refine ⟨h4.set b (.cells (cs ++ ns ++ rest.drop ns.length) elem false), ?_, ⟨by rw [List.length_append, h1, hns, ← Nat.add_mul], h2, ?_, hroom, h5, rest.drop ns.length, get_set_self _ _ _, ?_⟩, by rw [e4]; rfl, fun x hx hne => by rw [get_set_ne hne, e4, get_alloc_ne (by omega)]⟩
 ·rw [aBuiltin_append hu]
  unfold aAppend
  simp only [hu, hi, lenV, hfc, hfn, hz]
  rw [if_pos ⟨hzs, hpos, hns, h1⟩, if_neg (by omega), if_pos hroom]
  have : aStoreCells h4 b (0 + n * i.size) ns = some (h4.set b (.cells (cs ++ ns ++ rest.drop ns.length) elem false)) := by
   unfold aStoreCells
   rw [hb4]
   simp only
   rw [if_pos (by rw [List.length_append]; omega), Nat.zero_add, ← h1, List.take_left, List.drop_append]
   rw [List.drop_eq_nil_of_le (by omega), List.nil_append, show cs.length + ns.length - cs.length = ns.length by omega]
  rw [this]
 ·rw [e4]; show b < h.next + 1; omega
 ·rw [List.length_append, List.length_append, List.length_drop]; omega
/-! ## Numbers as bytes -/
def byB (w n : Nat) : List Nat := (List.range w).map fun k => n / 256 ^ k % 256
def enc (ws ns : List Nat) : List Nat := (List.zipWith byB ws ns).flatten
def CutOk (P : Program) (h : AH) (elem : TypeId) (b n c : Nat) : Prop := (n ≤ c ∧ c < openCap) ∨ (c = openCap ∧ ∃ cs e ro, h.get b = some (.cells cs e ro) ∧ P.cellsOf e = P.cellsOf elem)
theorem boundNat (lo m : Nat) : boundOf (.int .i64 (lo : Int)) m = if lo ≤ m then some lo else none := by
 unfold boundOf
 simp only
 by_cases q : lo ≤ m
 ·rw [if_pos q, if_pos ⟨by omega, by omega⟩, Int.toNat_natCast]
 ·rw [if_neg q, if_neg (by omega)]
theorem CutOk.old {P : Program} {h h' : AH} {elem : TypeId} {b n c : Nat} (k : CutOk P h elem b n c) (o : Old h h') (hb : b < h.next) : CutOk P h' elem b n c := by
 rcases k with k | ⟨h1, cs, e, ro, h2, h3⟩
 ·exact .inl k
 ·exact .inr ⟨h1, cs, e, ro, by rw [o.2 b hb]; exact h2, h3⟩
theorem Shows.cut {h : AH} {b off n sz lo off2 : Nat} {cs : List Value} (s : Shows h (some ⟨b, off, none⟩) n sz cs) (hlo : lo ≤ n) (hoff : lo < n → off2 = off + lo * sz) : Shows h (some ⟨b, off2, none⟩) (n - lo) sz (cs.drop (lo * sz)) := by
 refine ⟨by rw [List.length_drop, s.1, Nat.sub_mul], ?_⟩
 by_cases hq : lo < n
 ·rcases s.2 with h0 | ⟨b', off', al, e, ro, hp, hb, hg, hl, hc⟩
  ·omega
  ·simp only [Option.some.injEq, Addr.mk.injEq, and_true] at hp
   obtain ⟨rfl, rfl⟩ := hp
   have hm : (n - lo) * sz = n * sz - lo * sz := Nat.sub_mul _ _ _
   have hle : lo * sz ≤ n * sz := Nat.mul_le_mul_right _ hlo
   refine .inr ⟨_, _, al, e, ro, rfl, hb, hg, by rw [hoff hq, hm]; omega, ?_⟩
   rw [hoff hq, ← hc, List.drop_take, List.drop_drop, hm]
 ·exact .inl (by omega)
theorem Fr.old {F F' : List Nat} {h0 g g' : AH} (f : Fr F g g' F') (o : Old h0 g) (hF : ∀ c ∈ F, h0.next ≤ c) : Old h0 g' ∧ ∀ c ∈ F', h0.next ≤ c :=
 ⟨⟨Nat.le_trans o.1 f.1, fun c hc => by rw [f.2.1 c (Nat.lt_of_lt_of_le hc o.1) (fun z => absurd (hF c z) (by omega)), o.2 c hc]⟩, fun c hc => (f.2.2 c hc).elim (hF c) (fun z => Nat.le_trans o.1 z)⟩
theorem Old.near {h0 g g' : AH} {b : Nat} (o : Old h0 g) (n : Near b g g') (hb : h0.next ≤ b) : Old h0 g' := ⟨by rw [n.1]; exact o.1, fun c hc => by rw [n.2 c (by omega), o.2 c hc]⟩
/-! ## Blocks of one's own, beside a set of blocks -/
def Mine (g : AH) (F : List Nat) (b : Nat) (cs : List Value) (ty : TypeId) : Prop := g.get b = some (.cells cs ty false) ∧ b < g.next ∧ b ∉ F
theorem Mine.old {g g' : AH} {F : List Nat} {b : Nat} {cs : List Value} {ty : TypeId} (w : Mine g F b cs ty) (o : Old g g') : Mine g' F b cs ty := ⟨(o.2 _ w.2.1).trans w.1, Nat.lt_of_lt_of_le w.2.1 o.1, w.2.2⟩
theorem Mine.fr {g g' : AH} {F F' : List Nat} {b : Nat} {cs : List Value} {ty : TypeId} (w : Mine g F b cs ty) (f : Fr F g g' F') : Mine g' F' b cs ty := ⟨(f.2.1 _ w.2.1 w.2.2).trans w.1, Nat.lt_of_lt_of_le w.2.1 f.1, fun q => (f.2.2 _ q).elim w.2.2 (fun z => absurd w.2.1 (Nat.not_lt.2 z))⟩
theorem Mine.near {g g' : AH} {F : List Nat} {b c : Nat} {cs : List Value} {ty : TypeId} (w : Mine g F b cs ty) (n : Near c g g') (hne : b ≠ c) : Mine g' F b cs ty := ⟨(n.2 _ hne).trans w.1, by rw [n.1]; exact w.2.1, w.2.2⟩
theorem put_new {g g1 : AH} {z vs : List Value} {ty : TypeId} (e : g1 = g.alloc (.cells z ty false)) (hl : vs.length = z.length) : ∃ g2, stN g1 g.next 0 vs = some g2 ∧ g2.next = g.next + 1 ∧ Old g g2 ∧ ∀ F : List Nat, (∀ c ∈ F, c < g.next) → Mine g2 F g.next vs ty := by
 have n := near_set g.next g1 (.cells vs ty false)
 have n1 := next_of_alloc e
 have o1 := old_of_alloc e
 refine ⟨_, stN_all (get_of_alloc e) hl, by rw [n.1, n1], ⟨by rw [n.1, n1]; omega, fun c hc => by rw [n.2 c (by omega), o1.2 c hc]⟩, fun F hF => ⟨get_set_self _ _ _, by rw [n.1, n1]; omega, fun q => absurd (hF _ q) (Nat.lt_irrefl _)⟩⟩
theorem Mine.put {g : AH} {F : List Nat} {b : Nat} {cs vs : List Value} {ty : TypeId} (w : Mine g F b cs ty) (hl : vs.length = cs.length) : ∃ g2, stN g b 0 vs = some g2 ∧ Near b g g2 ∧ Mine g2 F b vs ty :=
 ⟨_, stN_all w.1 hl, near_set _ _ _, get_set_self _ _ _, by rw [(near_set b g (.cells vs ty false)).1]; exact w.2.1, w.2.2⟩
theorem Mine.part {g : AH} {F : List Nat} {b off : Nat} {cs vs : List Value} {ty : TypeId} (w : Mine g F b cs ty) (hl : off + vs.length ≤ cs.length) : ∃ g2, stN g b off vs = some g2 ∧ Near b g g2 ∧ Mine g2 F b (cs.take off ++ vs ++ cs.drop (off + vs.length)) ty :=
 ⟨_, stN_of w.1 hl, near_set _ _ _, get_set_self _ _ _, by rw [(near_set b g _).1]; exact w.2.1, w.2.2⟩
theorem Mine.ld {g : AH} {F : List Nat} {b n : Nat} {cs : List Value} {ty : TypeId} (w : Mine g F b cs ty) (hl : cs.length = n) : ldN g b 0 n = some cs := ldN_all w.1 hl
theorem Grow.near {lim lim' : Nat} {h h' : AH} {elem : TypeId} {sz b : Nat} {p : Option Addr} {n c : Nat} {cs : List Value} (g : Grow lim h elem sz p n c cs) (k : Near b h h') (hb : b < lim) (hl : lim' ≤ lim) : Grow lim' h' elem sz p n c cs := by
 refine ⟨g.1, ?_⟩
 rcases g.2 with z | ⟨b', hp, h1, h2, h3, h4⟩
 ·exact .inl z
 ·exact .inr ⟨b', hp, by omega, by rw [k.1]; exact h2, by rw [k.2 b' (by omega)]; exact h3, h4⟩
theorem Grow.block {lim : Nat} {h : AH} {elem : TypeId} {sz : Nat} {p : Option Addr} {n c : Nat} {cs : List Value} (g : Grow lim h elem sz p n c cs) {a : Addr} (e : p = some a) : lim ≤ a.block ∧ a.block < h.next := by
 rcases g.2 with ⟨z, -⟩ | ⟨b', hp, h1, h2, -⟩
 ·rw [z] at e; cases e
 ·rw [hp] at e; cases e; exact ⟨h1, h2⟩
theorem Grow.form {lim : Nat} {h : AH} {elem : TypeId} {sz : Nat} {p : Option Addr} {n c : Nat} {cs : List Value} (g : Grow lim h elem sz p n c cs) : p = none ∨ ∃ b off, p = some ⟨b, off, none⟩ := by
 rcases g.2 with ⟨z, -⟩ | ⟨b', hp, -⟩
 ·exact .inl z
 ·exact .inr ⟨b', 0, hp⟩
theorem Grow.fr {lim : Nat} {h h' : AH} {elem : TypeId} {sz : Nat} {p : Option Addr} {n c : Nat} {cs : List Value} {F F' : List Nat} (g : Grow lim h elem sz p n c cs) (f : Fr F h h' F') (hF : ∀ x ∈ F, x < lim) : Grow lim h' elem sz p n c cs := by
 refine ⟨g.1, ?_⟩
 rcases g.2 with z | ⟨b', hp, h1, h2, h3, h4⟩
 ·exact .inl z
 ·exact .inr ⟨b', hp, h1, Nat.lt_of_lt_of_le h2 f.1, by rw [f.2.1 b' h2 (fun z => absurd (hF _ z) (by omega))]; exact h3, h4⟩
theorem Grow.weak {lim lim' : Nat} {h : AH} {elem : TypeId} {sz : Nat} {p : Option Addr} {n c : Nat} {cs : List Value} (g : Grow lim h elem sz p n c cs) (hl : lim' ≤ lim) : Grow lim' h elem sz p n c cs := by
 refine ⟨g.1, ?_⟩
 rcases g.2 with z | ⟨b', hp, h1, h2, h3, h4⟩
 ·exact .inl z
 ·exact .inr ⟨b', hp, by omega, h2, h3, h4⟩
/-! ## Pointers' cells -/
theorem rda1 {P : Program} {g : Nat} {t1 : TypeId} {h : AH} : ∀ {vs : List Value}, RdA P h g [t1] vs → ∃ a, vs = [a] ∧ RdV P h g t1 a
 | [a], r => ⟨a, rfl, r.1⟩
theorem rda2 {P : Program} {g : Nat} {t1 t2 : TypeId} {h : AH} : ∀ {vs : List Value}, RdA P h g [t1, t2] vs → ∃ a b, vs = [a, b] ∧ RdV P h g t1 a ∧ RdV P h g t2 b
 | [a, b], r => ⟨a, b, rfl, r.1, r.2.1⟩
end Go.Am
/-
 CONTRACTS: slices cut on both sides; copies of nothing, too; rows of texts.
-/
set_option linter.unusedVariables false
set_option linter.unusedSimpArgs false
namespace Go.Am
def CutP (P : Program) (h : AH) (elem : TypeId) (p : Option Addr) (n c : Nat) : Prop := (p = none ∧ n = 0 ∧ c < openCap) ∨ ∃ b off, p = some ⟨b, off, none⟩ ∧ CutOk P h elem b n c
theorem CutP.kept {P : Program} {h h' : AH} {elem : TypeId} {p : Option Addr} {n c : Nat} (k : CutP P h elem p n c) (e : ∀ a, p = some a → h'.get a.block = h.get a.block) : CutP P h' elem p n c := by
 rcases k with k | ⟨b, off, rfl, k⟩
 ·exact .inl k
 ·refine .inr ⟨b, off, rfl, ?_⟩
  rcases k with k | ⟨h1, cs, e', ro, h2, h3⟩
  ·exact .inl k
  ·exact .inr ⟨h1, cs, e', ro, by rw [e _ rfl]; exact h2, h3⟩
theorem CutP.old {P : Program} {h h' : AH} {elem : TypeId} {p : Option Addr} {n c : Nat} (k : CutP P h elem p n c) (o : Old h h') (hb : ∀ a, p = some a → a.block < h.next) : CutP P h' elem p n c := k.kept fun a ha => o.2 _ (hb a ha)
def endV : Option Nat → Option Value
 | none => none
 | some i => some (.int .i64 (i : Int))
def endN (n : Nat) : Option Nat → Nat
 | none => n
 | some i => i
theorem cutP {P : Program} {h : AH} {st elem : TypeId} {sz by' : Nat} (E : ElemOk P st elem sz by') {p : Option Addr} {n c : Nat} (hsz : P.cellsOf elem = sz) (hc : CutP P h elem p n c) (lo hi : Option Nat) (h1 : endN 0 lo ≤ endN n hi) (h2 : endN n hi ≤ n) :
 ∃ p' c', aSlice P h st (.slice p n c) (endV lo) (endV hi) none = some (.slice p' (endN n hi - endN 0 lo) c') ∧ (∀ b off, p = some ⟨b, off, none⟩ → ∃ off', p' = some ⟨b, off', none⟩ ∧ (endN 0 lo < endN n hi → off' = off + endN 0 lo * sz)) ∧ (p = none → p' = none) ∧ CutP P h elem p' (endN n hi - endN 0 lo) c' := by
 obtain ⟨hu, i, z, hi', hz, hzs, hpos, rfl, rfl⟩ := E
 have b0 : ∀ m, (m = n ∨ n ≤ m) → aBounds n m (endV lo) (endV hi) none = some (endN 0 lo, endN n hi, m) := fun m hm => by
  unfold aBounds
  cases hi with
  | none =>
    simp only [endV, endN] at h1 h2 ⊢
    cases lo with
    | none => rfl
    | some l =>
      simp only [endV, endN] at h1 ⊢
      rw [boundNat, if_pos h1]
  | some j =>
    simp only [endV, endN] at h1 h2 ⊢
    rw [boundNat, if_pos (by omega)]
    simp only
    cases lo with
    | none => rfl
    | some l =>
      simp only [endV, endN] at h1 ⊢
      rw [boundNat, if_pos h1]
 unfold aSlice
 rw [hu]
 rcases hc with ⟨rfl, rfl, hcc⟩ | ⟨b, off, rfl, hc⟩
 ·simp only [hi', Option.isSome_some, true_and, b0 c (.inr (by omega)), if_pos hcc]
  exact ⟨none, _, rfl, fun b off z => (by cases z), fun _ => rfl, .inl ⟨rfl, by omega, by omega⟩⟩
 ·simp only [hi', Option.isSome_some, if_true]
  rcases hc with ⟨h3, h4⟩ | ⟨rfl, cs, e, ro, hg, he⟩
  ·rw [if_neg (by omega), if_pos h4, b0 c (.inr h3)]
   refine ⟨_, _, rfl, fun b' off' z => ?_, fun z => (by cases z), .inr ⟨b, _, rfl, .inl ⟨by omega, by omega⟩⟩⟩
   simp only [Option.some.injEq, Addr.mk.injEq, and_true] at z
   obtain ⟨rfl, rfl⟩ := z
   exact ⟨_, rfl, fun q => by rw [if_neg (by omega), hsz]⟩
  ·rw [if_pos rfl, b0 n (.inl rfl)]
   simp only [hg, he, if_true]
   refine ⟨_, _, rfl, fun b' off' z => ?_, fun z => (by cases z), .inr ⟨b, _, rfl, .inr ⟨rfl, cs, e, ro, hg, he⟩⟩⟩
   simp only [Option.some.injEq, Addr.mk.injEq, and_true] at z
   obtain ⟨rfl, rfl⟩ := z
   exact ⟨_, rfl, fun _ => by rw [hsz]⟩
theorem Shows.kept {h h' : AH} {p : Option Addr} {n sz : Nat} {cs : List Value} (s : Shows h p n sz cs) (hn : h.next ≤ h'.next) (k : ∀ a, p = some a → h'.get a.block = h.get a.block) : Shows h' p n sz cs := by
 refine ⟨s.1, ?_⟩
 rcases s.2 with h0 | ⟨b, off, al, e, ro, hp, hb, hg, hl, hc⟩
 ·exact .inl h0
 ·exact .inr ⟨b, off, al, e, ro, hp, Nat.lt_of_lt_of_le hb hn, by rw [k _ hp]; exact hg, hl, hc⟩
theorem Shows.cut2 {h : AH} {p p' : Option Addr} {n sz lo hi : Nat} {cs : List Value} (s : Shows h p n sz cs) (h1 : lo ≤ hi) (h2 : hi ≤ n) (hp : ∀ b off, p = some ⟨b, off, none⟩ → ∃ off', p' = some ⟨b, off', none⟩ ∧ (lo < hi → off' = off + lo * sz)) :
 Shows h p' (hi - lo) sz ((cs.drop (lo * sz)).take ((hi - lo) * sz)) := by
 have hle : hi * sz ≤ n * sz := Nat.mul_le_mul_right _ h2
 have hm : (hi - lo) * sz = hi * sz - lo * sz := Nat.sub_mul _ _ _
 refine ⟨by rw [List.length_take, List.length_drop, s.1, hm]; omega, ?_⟩
 by_cases hq : lo < hi
 ·rcases s.2 with h0 | ⟨b, off, al, e, ro, rfl, hb, hg, hl, hc⟩
  ·omega
  ·obtain ⟨off', rfl, ho⟩ := hp b off rfl
   have hlo : lo * sz ≤ hi * sz := Nat.mul_le_mul_right _ h1
   refine .inr ⟨b, off', al, e, ro, rfl, hb, hg, by rw [ho hq, hm]; omega, ?_⟩
   rw [ho hq, ← hc, List.drop_take, List.drop_drop, List.take_take]
   congr 1
   omega
 ·exact .inl (by omega)
end Go.Am
/-
 CONTRACTS: what grows in room of its own; halves.
-/
set_option linter.unusedVariables false
set_option linter.unusedSimpArgs false
namespace Go.Am
theorem GrowC.app {P : Program} {lim : Nat} {h : AH} {st elem : TypeId} {sz by' : Nat} {b n c : Nat} {cs : List Value} (g : GrowC lim h elem sz b n c cs) (E : ElemOk P st elem sz by')
 {x : Value} {m : Nat} {ns : List Value} (hx : lenV x = some m) (hfn : firstC h sz m x = some ns) (hns : ns.length = m * sz) (hroom : n + m ≤ c) :
 ∃ h', aBuiltin P h .append #[st, st] [.slice (some ⟨b, 0, none⟩) n c, x] = some (.slice (some ⟨b, 0, none⟩) (n + m) c, h') ∧ GrowC lim h' elem sz b (n + m) c (cs ++ ns) ∧ Near b h h' := by
 have gs := g.shows
 obtain ⟨h1, h2, h3, h4', h5, rest, h6, h7⟩ := g
 obtain ⟨hu, i, z, hi, hz, hzs, hpos, rfl, rfl⟩ := E
 have hfc : firstC h i.size n (.slice (some ⟨b, 0, none⟩) n c) = some cs := gs.firstC (.inr ⟨b, 0, rfl⟩)
 rw [List.length_append] at h7
 have hns2 : ns.length ≤ rest.length := by
  have : (n + m) * i.size ≤ c * i.size := Nat.mul_le_mul_right _ hroom
  rw [Nat.add_mul] at this
  omega
 cases m with
 | zero =>
   have : ns = [] := by simpa using hns
   subst this
   refine ⟨h, ?_, ⟨by simpa using h1, h2, h3, h4', h5, rest, by simpa using h6, by simpa using h7⟩, rfl, fun _ _ => rfl⟩
   rw [aBuiltin_append hu]
   unfold aAppend
   simp only [hu, hi, hx, hfc, hfn, hz]
   rw [if_pos ⟨hzs, hpos, hns, h1⟩, if_neg (by omega), if_pos hroom]
   rfl
 | succ m' =>
   refine ⟨h.set b (.cells (cs ++ ns ++ rest.drop ns.length) elem false), ?_, ⟨by rw [List.length_append, h1, hns, ← Nat.add_mul], h2, h3, hroom, h5, rest.drop ns.length, get_set_self _ _ _, ?_⟩, rfl, fun x hx => get_set_ne hx⟩
   ·rw [aBuiltin_append hu]
    unfold aAppend
    simp only [hu, hi, hx, hfc, hfn, hz]
    rw [if_pos ⟨hzs, hpos, hns, h1⟩, if_neg (by omega), if_pos hroom]
    have : aStoreCells h b (0 + n * i.size) ns = some (h.set b (.cells (cs ++ ns ++ rest.drop ns.length) elem false)) := by
     unfold aStoreCells
     rw [h6]
     simp only
     rw [if_pos (by rw [List.length_append]; omega), Nat.zero_add, ← h1, List.take_left, List.drop_append]
     rw [List.drop_eq_nil_of_le (by omega), List.nil_append, show cs.length + ns.length - cs.length = ns.length by omega]
    rw [this]
   ·rw [List.length_append, List.length_append, List.length_drop]; omega
theorem GrowC.near {lim : Nat} {h h' : AH} {elem : TypeId} {sz b n c x : Nat} {cs : List Value} (g : GrowC lim h elem sz b n c cs) (k : Near x h h') (hx : b ≠ x) : GrowC lim h' elem sz b n c cs := by
 obtain ⟨h1, h2, h3, h4, h5, rest, h6, h7⟩ := g
 exact ⟨h1, h2, by rw [k.1]; exact h3, h4, h5, rest, by rw [k.2 b hx]; exact h6, h7⟩
theorem GrowC.cutP {P : Program} {lim : Nat} {h : AH} {elem : TypeId} {sz b n c : Nat} {cs : List Value} (g : GrowC lim h elem sz b n c cs) : CutP P h elem (some ⟨b, 0, none⟩) n c := .inr ⟨b, 0, rfl, .inl ⟨g.2.2.2.1, g.2.2.2.2.1⟩⟩
theorem Grow.cutQ {P : Program} {lim : Nat} {h : AH} {elem : TypeId} {sz : Nat} {p : Option Addr} {n c : Nat} {cs : List Value} (g : Grow lim h elem sz p n c cs) (hn : n < openCap) : CutP P h elem p n c := by
 rcases g.2 with ⟨h1, h2, h3⟩ | ⟨b, h1, -, -, h4, h5⟩
 ·exact .inl ⟨h1, h2, by omega⟩
 ·refine .inr ⟨b, 0, h1, ?_⟩
  rcases h5 with h5 | h5
  ·exact .inr ⟨h5, _, _, _, h4, rfl⟩
  ·exact .inl ⟨by omega, by omega⟩
theorem shr1_u64 (x : Nat) : aShift .shr .u64 (x : Int) 1 = some (.int .u64 ((x / 2 : Nat) : Int)) := by
 unfold aShift
 rw [if_neg (by omega)]
 have h1 : min ((1 : Int)).toNat (IntKind.bits .u64) = 1 := by decide
 simp only [h1]
 congr 2
 rw [Int.fdiv_eq_ediv_of_nonneg _ (by decide)]
 omega
end Go.Am
