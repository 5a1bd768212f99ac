/-
  CONTRACTS: memory, frames, slices that grow.
-/
import Derived.Test.YtfomjjgojpmgcabAmG
set_option linter.unusedVariables false
set_option linter.unusedSimpArgs false
namespace Go.Am
/-- Every block that was is as it was. -/
def Old (h h' : AH) : Prop := h.next ≤ h'.next ∧ ∀ b, b < h.next → h'.get b = h.get b
/-- Blocks below a bound are as they were. -/
def OldB (lim : Nat) (h h' : AH) : Prop := h.next ≤ h'.next ∧ ∀ b, b < lim → h'.get b = h.get b
theorem Old.refl (h : AH) : Old h h := ⟨Nat.le_refl _, fun _ _ => rfl⟩
theorem Old.trans {h1 h2 h3 : AH} (a : Old h1 h2) (b : Old h2 h3) : Old h1 h3 := ⟨Nat.le_trans a.1 b.1, fun c hc => by rw [b.2 c (Nat.lt_of_lt_of_le hc a.1), a.2 c hc]⟩
theorem OldB.refl (lim : Nat) (h : AH) : OldB lim h h := ⟨Nat.le_refl _, fun _ _ => rfl⟩
theorem OldB.trans {lim : Nat} {h1 h2 h3 : AH} (a : OldB lim h1 h2) (b : OldB lim h2 h3) : OldB lim h1 h3 := ⟨Nat.le_trans a.1 b.1, fun c hc => by rw [b.2 c hc, a.2 c hc]⟩
theorem Old.toB {lim : Nat} {h h' : AH} (a : Old h h') (hl : lim ≤ h.next) : OldB lim h h' := ⟨a.1, fun c hc => a.2 c (Nat.lt_of_lt_of_le hc hl)⟩
theorem OldB.toOld {h h' : AH} (a : OldB h.next h h') : Old h h' := a
theorem Old_alloc (h : AH) (o : AObj) : Old h (h.alloc o) := ⟨Nat.le_succ _, fun b hb => by rw [AH.get_alloc, if_neg (by omega)]⟩
theorem Old.alloc {h h1 h2 : AH} (a : Old h h1) {o : AObj} (e : h2 = h1.alloc o) : Old h h2 := by subst e; exact a.trans (Old_alloc _ _)
theorem OldB.alloc {lim : Nat} {h h1 h2 : AH} (a : OldB lim h h1) (hl : lim ≤ h.next) {o : AObj} (e : h2 = h1.alloc o) : OldB lim h h2 := by subst e; exact a.trans ((Old_alloc _ _).toB (Nat.le_trans hl a.1))
theorem OldB.set {lim : Nat} {h h1 : AH} (a : OldB lim h h1) {b : Nat} (hb : lim ≤ b) (o : AObj) : OldB lim h (h1.set b o) := ⟨a.1, fun c hc => by rw [AH.get_set, if_neg (by omega)]; exact a.2 c hc⟩
theorem get_alloc_next (h : AH) (o : AObj) : (h.alloc o).get h.next = some o := by rw [AH.get_alloc, if_pos rfl]
theorem get_alloc_ne {h : AH} {o : AObj} {b : Nat} (hb : b ≠ h.next) : (h.alloc o).get b = h.get b := by rw [AH.get_alloc, if_neg hb]
theorem get_set_ne {h : AH} {o : AObj} {b c : Nat} (hb : b ≠ c) : (h.set c o).get b = h.get b := by rw [AH.get_set, if_neg hb]
/-! ## Loads and stores -/
theorem ld1_of {h : AH} {b off : Nat} {cs : List Value} {e : TypeId} {ro : Bool} (hb : h.get b = some (.cells cs e ro)) : ld1 h b off = cs[off]? := by unfold ld1; rw [hb]; rfl
theorem ld1_at {h : AH} {b off : Nat} {cs : List Value} {e : TypeId} {ro : Bool} {v : Value} (hb : h.get b = some (.cells cs e ro)) (hv : cs[off]? = some v) : ld1 h b off = some v := by rw [ld1_of hb, hv]
theorem ldN_of {h : AH} {b off n : Nat} {cs : List Value} {e : TypeId} {ro : Bool} (hb : h.get b = some (.cells cs e ro)) (hl : off + n ≤ cs.length) : ldN h b off n = some ((cs.drop off).take n) := by unfold ldN; rw [hb]; exact if_pos hl
theorem ldN_all {h : AH} {b n : Nat} {cs : List Value} {e : TypeId} {ro : Bool} (hb : h.get b = some (.cells cs e ro)) (hl : cs.length = n) : ldN h b 0 n = some cs := by rw [ldN_of hb (by omega)]; simp [← hl]
theorem st1_of {h : AH} {b off : Nat} {cs : List Value} {e : TypeId} {v : Value} (hb : h.get b = some (.cells cs e false)) (hl : off < cs.length) : st1 h b off v = some (h.set b (.cells (cs.set off v) e false)) := by unfold st1 store1; rw [hb]; exact if_pos hl
theorem stN_of {h : AH} {b off : Nat} {cs vs : List Value} {e : TypeId} (hb : h.get b = some (.cells cs e false)) (hl : off + vs.length ≤ cs.length) : stN h b off vs = some (h.set b (.cells (cs.take off ++ vs ++ cs.drop (off + vs.length)) e false)) := by unfold stN storeN; rw [hb]; exact if_pos hl
theorem stN_all {h : AH} {b : Nat} {cs vs : List Value} {e : TypeId} (hb : h.get b = some (.cells cs e false)) (hl : vs.length = cs.length) : stN h b 0 vs = some (h.set b (.cells vs e false)) := by
  rw [stN_of hb (by omega)]
  simp [hl]
/-! ## Numbers -/
theorem i64w {c x : Int} (hc : c = IntKind.wrap .i64 x) (h1 : -9223372036854775808 ≤ x) (h2 : x ≤ 9223372036854775807) : c = x := by rw [hc, wrap_i64 h1 h2]
theorem u64w {c x : Int} (hc : c = IntKind.wrap .u64 x) (h1 : 0 ≤ x) (h2 : x ≤ 18446744073709551615) : c = x := by rw [hc, wrap_u64 h1 h2]
theorem u8w {c x : Int} (hc : c = IntKind.wrap .u8 x) (h1 : 0 ≤ x) (h2 : x ≤ 255) : c = x := by rw [hc, wrap_u8 h1 h2]
/-! ## Slices -/
/-- The cells that a slice shows. -/
def Shows (h : AH) (p : Option Addr) (n : Nat) (sz : Nat) (cs : List Value) : Prop :=
  cs.length = n * sz ∧ (n = 0 ∨ ∃ b off al e ro, p = some ⟨b, off, none⟩ ∧ b < h.next ∧ h.get b = some (.cells al e ro) ∧ off + n * sz ≤ al.length ∧ (al.drop off).take (n * sz) = cs)
theorem Shows.old {h h' : AH} {p : Option Addr} {n sz : Nat} {cs : List Value} (s : Shows h p n sz cs) (o : Old h h') : Shows h' p n sz cs := by
  refine ⟨s.1, ?_⟩
  rcases s.2 with h0 | ⟨b, off, al, e, ro, hp, hb, hg, hl, hc⟩
  · exact .inl h0
  · exact .inr ⟨b, off, al, e, ro, hp, Nat.lt_of_lt_of_le hb o.1, by rw [o.2 b hb, hg], hl, hc⟩
theorem Shows.firstC {h : AH} {p : Option Addr} {n sz c : Nat} {cs : List Value} (s : Shows h p n sz cs) (hp : p = none ∨ ∃ b off, p = some ⟨b, off, none⟩) : firstC h sz n (.slice p n c) = some cs := by
  rcases s.2 with h0 | ⟨b, off, al, e, ro, hp, hb, hg, hl, hc⟩
  · subst h0
    have : cs = [] := by have := s.1; simp at this; exact this
    subst this
    rcases hp with rfl | ⟨b, off, rfl⟩
    · rfl
    · simp [Am.firstC]
  · subst hp
    unfold Am.firstC
    cases hm : n * sz with
    | zero =>
      have := s.1
      rw [hm] at this
      simp only
      rw [List.eq_nil_of_length_eq_zero this]
    | succ m =>
      simp only [hg, Nat.le_refl, true_and]
      rw [hm] at hl hc
      rw [if_pos hl, hc]
/-- A slice of one's own that grows: its cells are a whole block, no older than a bound. -/
def Grow (lim : Nat) (h : AH) (elem : TypeId) (sz : Nat) (p : Option Addr) (n c : Nat) (cs : List Value) : Prop :=
  cs.length = n * sz ∧ ((p = none ∧ n = 0 ∧ c = 0) ∨ ∃ b, p = some ⟨b, 0, none⟩ ∧ lim ≤ b ∧ b < h.next ∧ h.get b = some (.cells cs elem false) ∧ (c = openCap ∨ c = n))
theorem Grow.shows {lim : Nat} {h : AH} {elem : TypeId} {sz : Nat} {p : Option Addr} {n c : Nat} {cs : List Value} (g : Grow lim h elem sz p n c cs) : Shows h p n sz cs := by
  refine ⟨g.1, ?_⟩
  rcases g.2 with ⟨hp, hn, hc⟩ | ⟨b, hp, hl, hb, hg, hc⟩
  · exact .inl hn
  · exact .inr ⟨b, 0, cs, elem, false, hp, hb, hg, by rw [g.1]; omega, by simp [← g.1]⟩
theorem Grow.nil (lim : Nat) (h : AH) (elem : TypeId) (sz : Nat) : Grow lim h elem sz none 0 0 [] := ⟨by simp, .inl ⟨rfl, rfl, rfl⟩⟩
theorem Grow.old {lim : Nat} {h h' : AH} {elem : TypeId} {sz : Nat} {p : Option Addr} {n c : Nat} {cs : List Value} (g : Grow lim h elem sz p n c cs) (o : Old h h') : Grow lim h' elem sz p n c cs := by
  refine ⟨g.1, ?_⟩
  rcases g.2 with hp | ⟨b, hp, hl, hb, hg, hc⟩
  · exact .inl hp
  · exact .inr ⟨b, hp, hl, Nat.lt_of_lt_of_le hb o.1, by rw [o.2 b hb, hg], hc⟩
/-- A type of elements: its size in cells and bytes. -/
def ElemOk (P : Program) (st elem : TypeId) (sz by' : Nat) : Prop :=
  P.underlying st = some (.slice elem) ∧ ∃ i z, P.info? elem = some i ∧ i.zero = some z ∧ z.cells.size = i.size ∧ 0 < i.size ∧ i.size = sz ∧ i.bytes = by'
/-- One's own block, if it is not nil, and other blocks. -/
def apart (p : Option Addr) (b : Nat) : Prop := match p with | some a => a.block ≠ b | none => True
/-- Something is appended to a slice of one's own. -/
theorem Grow.append {P : Program} {lim : Nat} {h : AH} {st elem : TypeId} {sz by' : Nat} {p : Option Addr} {n c : Nat} {cs : List Value} (g : Grow lim h elem sz p n c cs) (E : ElemOk P st elem sz by') (hlim : lim ≤ h.next)
    {x : Value} {m : Nat} {ns : List Value} (hx : lenV x = some m) (hf : firstC h sz m x = some ns) (hns : ns.length = m * sz) (hroom : (n + m) * by' ≤ roomMax) (hroom2 : n + m ≤ 9223372036854775807)
    (hxt : ∃ e, P.underlying st = some (.slice e)) :
    ∃ p' c' h', aBuiltin P h .append #[st, st] [.slice p n c, x] = some (.slice p' (n + m) c', h') ∧ Grow lim h' elem sz p' (n + m) c' (cs ++ ns) ∧ OldB lim h h' ∧ (∀ b, b < h.next → apart p b → h'.get b = h.get b) := by
  obtain ⟨hu, i, z, hi, hz, hzs, hpos, rfl, rfl⟩ := E
  have hlen : (cs ++ ns).length = (n + m) * i.size := by rw [List.length_append, g.1, hns, Nat.add_mul]
  have hb0 : aBuiltin P h .append #[st, st] [.slice p n c, x] = aAppend P h st false (.slice p n c) x := aBuiltin_append hu
  rw [hb0]
  have hfc : firstC h i.size n (.slice p n c) = some cs := g.shows.firstC (by
    rcases g.2 with ⟨hp, _⟩ | ⟨b, hp, _⟩
    · exact .inl hp
    · exact .inr ⟨b, 0, hp⟩)
  have hcnd : z.cells.size = i.size ∧ 0 < i.size ∧ ns.length = m * i.size ∧ cs.length = n * i.size := ⟨hzs, hpos, hns, g.1⟩
  have fresh : ∃ p' c' h', some (Value.slice (some ⟨h.next, 0, none⟩) (n + m) openCap, h.alloc (.cells (cs ++ ns) elem false)) = some (.slice p' (n + m) c', h') ∧ Grow lim h' elem i.size p' (n + m) c' (cs ++ ns) ∧ OldB lim h h' ∧ (∀ b, b < h.next → apart p b → h'.get b = h.get b) :=
    ⟨_, _, _, rfl, ⟨hlen, .inr ⟨h.next, rfl, hlim, Nat.lt_succ_self _, get_alloc_next _ _, .inl rfl⟩⟩, (Old_alloc _ _).toB hlim, fun b hb _ => get_alloc_ne (by omega)⟩
  unfold aAppend
  simp only [hu, hi, hx, hfc, hf, hz]
  rw [if_pos hcnd]
  rcases g.2 with ⟨rfl, rfl, rfl⟩ | ⟨b, rfl, hl, hb, hg, hc⟩
  · rw [if_neg (by decide)]
    by_cases hm : m = 0
    · subst hm
      have : ns = [] := by have := hns; simp at this; exact this
      subst this
      rw [if_pos (by simp)]
      exact ⟨none, 0, h, rfl, ⟨by simpa using g.1, .inl ⟨rfl, rfl, rfl⟩⟩, OldB.refl _ _, fun _ _ _ => rfl⟩
    · rw [if_neg (by omega), if_pos ⟨Nat.le_refl _, hroom, hroom2⟩]
      exact fresh
  · rcases hc with rfl | rfl
    · rw [if_pos rfl]
      simp only [hg]
      rw [if_pos (by exact ⟨trivial, hroom, hroom2⟩)]
      refine ⟨_, _, _, rfl, ⟨hlen, .inr ⟨h.next, rfl, hlim, by simp, ?_, .inl rfl⟩⟩, ⟨by simp, ?_⟩, ?_⟩
      · rw [AH.get_alloc, if_pos (by simp)]
      · intro d hd
        rw [AH.get_alloc, if_neg (by simp; omega), AH.get_del, if_neg (by omega)]
      · intro d hd ha
        rw [AH.get_alloc, if_neg (by simp; omega), AH.get_del, if_neg (fun q => ha (by rw [q]))]
    · have hne : c ≠ openCap := by
        intro q
        have : c ≤ 9223372036854775807 := by omega
        rw [q] at this
        exact absurd this (by decide)
      rw [if_neg hne]
      by_cases hm : m = 0
      · subst hm
        have : ns = [] := by have := hns; simp at this; exact this
        subst this
        rw [if_pos (by simp)]
        exact ⟨_, c, h, rfl, ⟨by simpa using g.1, .inr ⟨b, rfl, hl, hb, by simpa using hg, .inr rfl⟩⟩, OldB.refl _ _, fun _ _ _ => rfl⟩
      · rw [if_neg (by omega), if_pos ⟨Nat.le_refl _, hroom, hroom2⟩]
        exact fresh
def elemOkB (P : Program) (st elem : TypeId) (sz by' : Nat) : Bool :=
  match P.underlying st with
  | some (.slice e) =>
    match P.info? elem with
    | some i => match i.zero with | some z => Nat.beq e elem && Nat.beq z.cells.size i.size && Nat.blt 0 i.size && Nat.beq i.size sz && Nat.beq i.bytes by' | none => false
    | none => false
  | _ => false
theorem ElemOk_of {P : Program} {st elem : TypeId} {sz by' : Nat} (h : elemOkB P st elem sz by' = true) : ElemOk P st elem sz by' := by
  unfold elemOkB at h
  split at h
  · rename_i e hu
    split at h
    · rename_i i hi
      split at h
      · rename_i z hz
        simp only [Bool.and_eq_true] at h
        obtain ⟨⟨⟨⟨h1, h2⟩, h3⟩, h4⟩, h5⟩ := h
        have h1 := Nat.eq_of_beq_eq_true h1
        subst h1
        exact ⟨hu, i, z, hi, hz, Nat.eq_of_beq_eq_true h2, by rw [Nat.blt_eq] at h3; exact h3, Nat.eq_of_beq_eq_true h4, Nat.eq_of_beq_eq_true h5⟩
      · cases h
    · cases h
  · cases h
/-- The first cells of a block that is just made. -/
theorem firstC_new {h h1 : AH} {cs : List Value} {e : TypeId} {n sz c : Nat} {ro : Bool} (e1 : h1 = h.alloc (.cells cs e ro)) (hl : cs.length = n * sz) : firstC h1 sz n (.slice (some ⟨h.next, 0, none⟩) n c) = some cs := by
  subst e1
  unfold Am.firstC
  cases hm : n * sz with
  | zero =>
    simp only
    rw [hm] at hl
    rw [List.eq_nil_of_length_eq_zero hl]
  | succ m =>
    simp only [get_alloc_next, Nat.le_refl, true_and, Nat.zero_add, List.drop_zero]
    rw [if_pos (by omega), ← hm, ← hl, List.take_length]
def intC (k : IntKind) (l : List Int) : List Value := l.map (Value.int k)
def natC (k : IntKind) (l : List Nat) : List Value := l.map fun n : Nat => Value.int k (n : Int)
theorem natC_get {k : IntKind} {l : List Nat} {i : Nat} (hi : i < l.length) : (natC k l)[i]? = some (.int k (l[i] : Nat)) := by simp [natC, hi]
theorem natC_len (k : IntKind) (l : List Nat) : (natC k l).length = l.length := by simp [natC]
theorem natC_app (k : IntKind) (l m : List Nat) : natC k (l ++ m) = natC k l ++ natC k m := by simp [natC]
/-- A few elements, written out, are appended to a slice of one's own. -/
theorem Grow.push {P : Program} {lim : Nat} {h h4 : AH} {st elem : TypeId} {sz by' : Nat} {p : Option Addr} {n c : Nat} {cs : List Value} (g : Grow lim h elem sz p n c cs) (E : ElemOk P st elem sz by') (hlim : lim ≤ h.next)
    {m : Nat} {ns : List Value} (e4 : h4 = h.alloc (.cells ns elem false)) (hns : ns.length = m * sz) (hroom : (n + m) * by' ≤ roomMax) (hroom2 : n + m ≤ 9223372036854775807) :
    ∃ p' c' h', aBuiltin P h4 .append #[st, st] [.slice p n c, .slice (some ⟨h.next, 0, none⟩) m m] = some (.slice p' (n + m) c', h') ∧ Grow lim h' elem sz p' (n + m) c' (cs ++ ns) ∧ OldB lim h h' ∧ (∀ b, b < h.next → apart p b → h'.get b = h.get b) := by
  obtain ⟨p', c', h5, h1, h2, h3, h6⟩ := (g.old (by rw [e4]; exact Old_alloc _ _)).append E (by rw [e4]; exact Nat.le_trans hlim (Nat.le_succ _)) (x := .slice (some ⟨h.next, 0, none⟩) m m) (m := m) rfl (firstC_new e4 hns) hns hroom hroom2 ⟨_, E.1⟩
  refine ⟨p', c', h5, h1, h2, ((Old_alloc h _).toB hlim).trans (e4 ▸ h3), fun b hb ha => ?_⟩
  rw [h6 b (by rw [e4]; exact Nat.lt_succ_of_lt hb) ha, e4, get_alloc_ne (by omega)]
theorem tdivN (a b : Nat) : Int.tdiv (a : Int) (b : Int) = ((a / b : Nat) : Int) := by
  rw [Int.tdiv_eq_ediv_of_nonneg (by omega), Int.natCast_ediv]
theorem tmodN (a b : Nat) : Int.tmod (a : Int) (b : Int) = ((a % b : Nat) : Int) := by
  rw [Int.tmod_eq_emod_of_nonneg (by omega), Int.natCast_emod]
theorem Grow.lit {lim : Nat} {h h1 : AH} {elem : TypeId} {sz n : Nat} {cs : List Value} (e1 : h1 = h.alloc (.cells cs elem false)) (hl : cs.length = n * sz) (hlim : lim ≤ h.next) : Grow lim h1 elem sz (some ⟨h.next, 0, none⟩) n n cs := by
  subst e1
  exact ⟨hl, .inr ⟨h.next, rfl, hlim, Nat.lt_succ_self _, get_alloc_next _ _, .inr rfl⟩⟩
/-- An element of a slice. -/
theorem Shows.get {h : AH} {p : Option Addr} {n : Nat} {cs : List Value} (s : Shows h p n 1 cs) {i : Nat} (hi : i < n) : ∃ b off, p = some ⟨b, off, none⟩ ∧ ld1 h b (off + i) = cs[i]? := by
  rcases s.2 with h0 | ⟨b, off, al, e, ro, hp, hb, hg, hl, hc⟩
  · omega
  · refine ⟨b, off, hp, ?_⟩
    rw [ld1_of hg, ← hc, List.getElem?_take, if_pos (by omega), List.getElem?_drop]
theorem Shows.getN {h : AH} {p : Option Addr} {n sz : Nat} {cs : List Value} (s : Shows h p n sz cs) {i : Nat} (hi : i < n) : ∃ b off, p = some ⟨b, off, none⟩ ∧ ldN h b (off + i * sz) sz = some ((cs.drop (i * sz)).take sz) ∧ ∀ j, j < sz → ld1 h b (off + i * sz + j) = cs[i * sz + j]? := by
  rcases s.2 with h0 | ⟨b, off, al, e, ro, hp, hb, hg, hl, hc⟩
  · omega
  · have hle : i * sz + sz ≤ n * sz := by rw [← Nat.succ_mul]; exact Nat.mul_le_mul_right _ hi
    refine ⟨b, off, hp, ?_, fun j hj => ?_⟩
    · rw [ldN_of hg (by omega), ← hc]
      congr 1
      apply List.ext_getElem?
      intro j
      simp only [List.getElem?_take, List.getElem?_drop]
      split
      · rw [if_pos (by omega)]; congr 1; omega
      · rfl
    · rw [ld1_of hg, ← hc, List.getElem?_take, if_pos (by omega), List.getElem?_drop]
      congr 1; omega
end Go.Am
