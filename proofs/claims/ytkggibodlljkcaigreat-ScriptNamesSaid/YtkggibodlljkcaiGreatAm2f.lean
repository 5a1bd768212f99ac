/-
  Each operation of the abstract machine is met by the model's: append, copy, clear, conversions.
-/
import Derived.Test.YtkggibodlljkcaiGreatAm2e
import Derived.Laws.AppendOwn
set_option linter.unusedVariables false
set_option linter.unusedSimpArgs false
namespace Go.Am
variable {P : Program} {φ φ' : Fi} {h h' : AH} {w w' : World}

/-- Where an append grows: any memory. -/
theorem append_grows {sType ty xType elem : TypeId} {i : TypeInfo} {z : Value} {base : Option Addr} {sLen sCap n : Nat} {x' : Value} {old new : List Value}
    (hu : P.underlying sType = some (.slice elem)) (hux : (∃ e, P.underlying xType = some (.slice e)) ∨ P.underlying xType = some .string) (hi : P.info? elem = some i) (hz : i.zero = some z) (hzs : z.cells.size = i.size)
    (hn : ∀ w2 : World, (Builtin.lenOf x').run P w2 = .ok n w2) (hg : sCap < sLen + n) (hb : (sLen + n) * i.bytes ≤ roomMax) (h63 : sLen + n ≤ 9223372036854775807)
    (ho : ∀ w2 : World, w2.heap = w.heap → (Builtin.firstCells i.size sLen (.slice base sLen sCap)).run P w2 = .ok old.toArray w2)
    (hw : ∀ w2 : World, w2.heap = w.heap → (Builtin.firstCells i.size n x').run P w2 = .ok new.toArray w2) :
    ∃ cap C, sLen + n ≤ cap ∧ cap < openCap ∧ (∃ post, C.toList = (old ++ new) ++ post ∧ post.length = (cap - (sLen + n)) * i.size) ∧
      (Builtin.append_ #[sType, xType] ty #[.slice base sLen sCap, x']).run P w = .ok (.slice (some ⟨w.heap.size, 0, none⟩) (sLen + n) cap) { w with heap := w.heap.push (.cells C elem), drawn := w.drawn + 1 } := by
  have hnext : Builtin.nextslicecap (sLen + n) sCap * i.bytes ≤ 281474976710656 := growslice_fits (by omega) hb
  refine ⟨grownCap w (sLen + n) sCap elem, old.toArray ++ (new.toArray ++ Builtin.zeroCells z.cells (grownCap w (sLen + n) sCap elem - (sLen + n))), grownCap_ge _ _ _ _, ?_, ⟨(Builtin.zeroCells z.cells (grownCap w (sLen + n) sCap elem - (sLen + n))).toList, by simp, ?_⟩, ?_⟩
  · have := grownCap_le_maxLen w (sLen + n) sCap elem (by simp only [maxLen]; omega)
    simp only [maxLen] at this
    simp only [openCap]
    omega
  · simp [Builtin.zeroCells, hzs]
  · have e1 : ¬ (sLen + n ≤ sCap) := by omega
    have e2 : ¬ (281474976710656 < Builtin.nextslicecap (sLen + n) sCap * i.bytes) := by omega
    have e3 : ¬ (9223372036854775807 < (sLen : Int) + (n : Int)) := by omega
    have hw1 := hw w.drew rfl
    have ho1 := ho w.drew rfl
    rcases hux with ⟨ex, hux1⟩ | hux1
    · simp [Builtin.append_, underlying_run hu, underlying_run hux1, sizeOf, typeInfo, hi, hn, e1, e2, e3, hw1, ho1, zeroValue, hz, newRow, grownCap, Question.forced]
      rfl
    · simp [Builtin.append_, underlying_run hu, underlying_run hux1, sizeOf, typeInfo, hi, hn, e1, e2, e3, hw1, ho1, zeroValue, hz, newRow, grownCap, Question.forced]
      rfl

theorem append_fits {sType ty xType elem : TypeId} {i : TypeInfo} {base : Option Addr} {sLen sCap n : Nat} {x' : Value} {new : List Value}
    (hu : P.underlying sType = some (.slice elem)) (hux : (∃ e, P.underlying xType = some (.slice e)) ∨ P.underlying xType = some .string) (hi : P.info? elem = some i)
    (hn : ∀ w2 : World, (Builtin.lenOf x').run P w2 = .ok n w2) (hg : sLen + n ≤ sCap)
    (hw : ∀ w2 : World, w2.heap = w.heap → (Builtin.firstCells i.size n x').run P w2 = .ok new.toArray w2) {w1 : World}
    (hs : ∀ a, base = some a → (storeCells (a.add (sLen * i.size)) new).run P w = .ok () w1) (hb : base = none → w1 = w) :
    (Builtin.append_ #[sType, xType] ty #[.slice base sLen sCap, x']).run P w = .ok (.slice base (sLen + n) sCap) w1 := by
  cases base with
  | none =>
    obtain rfl := hb rfl
    rcases hux with ⟨ex, hux1⟩ | hux1
    · simp [Builtin.append_, underlying_run hu, underlying_run hux1, sizeOf, typeInfo, hi, hn, hg, hw w1 rfl]
    · simp [Builtin.append_, underlying_run hu, underlying_run hux1, sizeOf, typeInfo, hi, hn, hg, hw w1 rfl]
  | some a =>
    have := hs a rfl
    rcases hux with ⟨ex, hux1⟩ | hux1
    · simp [Builtin.append_, underlying_run hu, underlying_run hux1, sizeOf, typeInfo, hi, hn, hg, hw w rfl, this]
    · simp [Builtin.append_, underlying_run hu, underlying_run hux1, sizeOf, typeInfo, hi, hn, hg, hw w rfl, this]

/-- An append into the spare of a grown slice: the old name is struck, the new one leads into the same block. -/
theorem Tn.regrow (r : R P φ h w) {b : Nat} {cs cs2 : List Value} {e : TypeId} {rc : Rec} {sh : Nat} {C2 : Array Value} {m2 : Nat × Nat} (hb : h.get b = some (.cells cs e false)) (hφ : φ b = some rc) (hf : φ h.next = none)
    (hC2 : C2.size = rc.total) (hs2 : ∃ pre mid post, C2.toList = pre ++ mid ++ post ∧ pre.length = sh ∧ LR φ cs2 mid) (hm : NF m2 rc.total) (hes : rc.esz = P.cellsOf e) :
    ∃ φ', φ' h.next = some { rc with shift := sh } ∧ Le φ φ' ∧ Tn P φ h w φ' ((h.del b).alloc (.cells cs2 e false)) { w with heap := w.heap.setIfInBounds rc.blk (.cells C2 e m2), drawn := w.drawn + 0 } := by
  obtain ⟨O, hO, _⟩ := r.obj b _ rc hb hφ
  have hlt : rc.blk < w.heap.size := (Array.getElem?_eq_some_iff.1 hO).1
  have hbn : b < h.next := r.lt b _ hb
  have hle : Le φ (fun c => if c = h.next then some { rc with shift := sh } else φ c) := by
    intro c q k
    by_cases hc : c = h.next
    · subst hc; rw [hf] at k; simp at k
    · simp [hc, k]
  have hget : ∀ c o, ((h.del b).alloc (.cells cs2 e false)).get c = some o → (c = h.next ∧ o = .cells cs2 e false) ∨ (c ≠ h.next ∧ c ≠ b ∧ h.get c = some o) := by
    intro c o k
    rw [AH.get_alloc, AH.get_del] at k
    simp only [AH.next_del] at k
    by_cases hc : c = h.next
    · simp only [hc, if_true, Option.some.injEq] at k
      exact .inl ⟨hc, k.symm⟩
    · simp only [hc, if_false] at k
      by_cases hcb : c = b
      · simp [hcb] at k
      · simp only [hcb, if_false] at k
        exact .inr ⟨hc, hcb, k⟩
  have hne : ∀ c o q, c ≠ b → h.get c = some o → φ c = some q → q.blk ≠ rc.blk := fun c o q hcb h1 h2 e => hcb (r.inj c b o _ q rc h1 hb h2 hφ e)
  refine ⟨fun c => if c = h.next then some { rc with shift := sh } else φ c, by simp, hle, hle, ?_, by simp, ⟨?_, ?_, ?_⟩, by simp, rfl, rfl, rfl, ?_, ?_⟩
  · intro c k
    by_cases hc : c = h.next
    · exact .inr ⟨by omega, by simp [hc]⟩
    · exact .inl (by simpa [hc] using k)
  · intro c o q k1 k2
    rcases hget c o k1 with ⟨hc, rfl⟩ | ⟨hc, hcb, k1⟩
    · simp only [hc, if_true, Option.some.injEq] at k2
      subst k2
      obtain ⟨pre, mid, post, g1, g2, g3⟩ := hs2
      exact ⟨.cells C2 e m2, by simp [hlt], rfl, hes, hC2, ⟨pre, mid, post, g1, g2, g3.mono hle⟩, fun _ => hm⟩
    · simp only [hc, if_false] at k2
      obtain ⟨O', hO', hr⟩ := r.obj c o q k1 k2
      refine ⟨O', ?_, hr.mono hle⟩
      simp only [Array.getElem?_setIfInBounds_ne (Ne.symm (hne c o q hcb k1 k2))]
      exact hO'
  · intro c1 c2 o1 o2 q1 q2 h1 h2 k1 k2 e'
    rcases hget c1 o1 h1 with ⟨hc1, rfl⟩ | ⟨hc1, hcb1, h1⟩ <;> rcases hget c2 o2 h2 with ⟨hc2, rfl⟩ | ⟨hc2, hcb2, h2⟩
    · omega
    · simp only [hc1, hc2, if_true, if_false, Option.some.injEq] at k1 k2
      subst k1
      exact absurd e'.symm (hne c2 o2 q2 hcb2 h2 k2)
    · simp only [hc1, hc2, if_true, if_false, Option.some.injEq] at k1 k2
      subst k2
      exact absurd e' (hne c1 o1 q1 hcb1 h1 k1)
    · simp only [hc1, hc2, if_false] at k1 k2
      exact r.inj c1 c2 o1 o2 q1 q2 h1 h2 k1 k2 e'
  · intro c o k1
    rcases hget c o k1 with ⟨hc, _⟩ | ⟨_, _, k1⟩
    · simp [hc]
    · have := r.lt c o k1; simp; omega
  · intro c hc hno
    have : rc.blk ≠ c := fun k => hno ⟨b, _, rc, hb, hφ, k, rfl⟩
    simp only [Array.getElem?_setIfInBounds_ne this]
  · intro c' o' q' k1 k2 _
    rcases hget c' o' k1 with ⟨hc', rfl⟩ | ⟨hc', _, k1⟩
    · simp only [hc', if_true, Option.some.injEq] at k2
      subst k2
      exact ⟨b, _, rc, hb, hφ, rfl, fun _ => rfl⟩
    · simp only [hc', if_false] at k2
      exact ⟨c', o', q', k1, k2, rfl, id⟩

theorem setRow_same {g : Nat} {cur : Array Value} {t : TypeId} {m : Nat × Nat} (hg : w.heap[g]? = some (.cells cur t m)) : { w with heap := w.heap.setIfInBounds g (.cells cur t m), drawn := w.drawn + 0 } = w := by
  have := setRow_self w g cur t m hg
  rw [setRow_eq hg] at this
  exact this

theorem append_sound (r : R P φ h w) {sType xType ty : TypeId} {xInt : Bool} {s s' x x' v : Value} {h' : AH}
    (hs : aAppend P h sType xInt s x = some (v, h')) (hx0 : xInt = false → (∃ e, P.underlying xType = some (.slice e)) ∨ P.underlying xType = some .string) (hv : VR φ s s') (hx : VR φ x x') (hf : h.next < h'.next → φ h.next = none) :
    Ends P φ h w (Builtin.append_ #[sType, xType] ty #[s', x']) v h' := by
  unfold aAppend at hs
  split at hs
  rotate_left
  · simp at hs
  rename_i elem base sLen sCap hu
  have hux := hx0 rfl
  split at hs
  rotate_left
  · simp at hs
  rename_i i n hi hn
  split at hs
  rotate_left
  · simp at hs
  rename_i old new z hold hnew hz
  split at hs
  rotate_left
  · simp at hs
  rename_i hcond
  obtain ⟨hzs, hpos, hnl, hol⟩ := hcond
  obtain ⟨news, hnr, hnrun⟩ := firstC_run (P := P) r hx hnew
  have hlenx := fun w2 => lenV_run (P := P) hx hn w2
  have hnl' := hnr.length
  split at hs
  · -- a grown slice
    rename_i hcap
    subst hcap
    split at hs
    rotate_left
    · simp at hs
    rename_i b off
    split at hs
    rotate_left
    · simp at hs
    rename_i cs e hb
    split at hs
    rotate_left
    · simp at hs
    rename_i hc2
    obtain ⟨rfl, hroom, h63⟩ := hc2
    simp only [Option.some.injEq, Prod.mk.injEq] at hs
    obtain ⟨rfl, rfl⟩ := hs
    have hf0 := hf (by simp)
    obtain ⟨olds, hor, horun⟩ := firstC_run (P := P) r hv hold
    have hol' := hor.length
    have hcell : P.cellsOf e = i.size := by simp [Program.cellsOf, hi]
    -- where it must grow
    have grow : ∀ (base' : Option Addr) (c' : Nat), s' = .slice base' sLen c' → c' < sLen + n → Ends P φ h w (Builtin.append_ #[sType, xType] ty #[s', x']) (.slice (some ⟨h.next, 0, none⟩) (sLen + n) openCap) ((h.del b).alloc (.cells (old ++ new) e false)) := by
      intro base' c' hs' hlt
      subst hs'
      obtain ⟨cap, C, g1, g2, ⟨post, g3, g3'⟩, g4⟩ := append_grows (ty := ty) hu hux hi hz hzs hlenx hlt hroom h63 horun hnrun
      have t1 := Tn.del (P := P) r b
      obtain ⟨φ', k1, k2⟩ := newRow_sound (P := P) (e := e) (C := C) t1.rel (by simpa using hf0) (hor.append hnr) ⟨post, g3⟩ 1
      simp only [AH.next_del] at k1
      refine ⟨φ', _, _, g4, ?_, t1.trans k2⟩
      have := VR.sliceO (φ := φ') (off := 0) (n := sLen + n) (c := cap) k1 g2 g1 (by
        simp only [hcell, Nat.zero_add]
        rw [← Array.length_toList, g3]
        simp only [List.length_append, g3', ← hol', ← hnl', hol, hnl, ← Nat.add_mul]
        congr 1
        omega)
      simpa using this
    cases hv with
    | slice hφ hc => exact absurd hc (by simp [openCap])
    | sliceO hφ hc hsn ht =>
      rename_i c' rc
      rcases Nat.lt_or_ge c' (sLen + n) with hlt | hge
      · exact grow _ _ rfl hlt
      · obtain ⟨C, m, pre, mid, post, ho, hes, htot, hC, hsh, hlr, hnf⟩ := r.cells hb hφ
        rw [hes, hcell] at ht
        have hsz : C.size = pre.length + mid.length + post.length := by rw [← Array.length_toList, hC]; simp; omega
        have hmul : (sLen + n) * i.size ≤ c' * i.size := Nat.mul_le_mul_right _ hge
        rw [Nat.add_mul] at hmul
        have hrun := storeCells_run (P := P) rc.blk (rc.shift + off + sLen * i.size) e m news 0 C w ho (by rw [htot]; exact hnf rfl) (by rw [← hnl', hnl, htot]; omega) hnr.one
        rw [setRow_eq ho] at hrun
        have holds : olds = (mid.drop off).take (sLen * i.size) ∨ sLen * i.size = 0 := by
          by_cases h0 : sLen * i.size = 0
          · exact .inr h0
          · left
            have hr0 := horun w rfl
            simp only [Builtin.firstCells] at hr0
            have hle : off + sLen * i.size ≤ cs.length := by
              simp only [firstC] at hold
              split at hold
              · rename_i q; exact absurd q h0
              · rw [hb] at hold
                simp only at hold
                split at hold
                · rename_i q; exact q.2
                · simp at hold
            rw [loadCells_mid ho hC hsh (by rw [← hlr.length]; exact hle)] at hr0
            simp only [Result.ok.injEq, and_true] at hr0
            have := congrArg Array.toList hr0
            simpa using this.symm
        have hmidlen := hlr.length
        have hsplit : ∃ pre' post', (C.toList.take (rc.shift + off + sLen * i.size + 0) ++ news ++ C.toList.drop (rc.shift + off + sLen * i.size + 0 + news.length)).toArray.toList = pre' ++ (olds ++ news) ++ post' ∧ pre'.length = rc.shift + off := by
          refine ⟨C.toList.take (rc.shift + off), C.toList.drop (rc.shift + off + sLen * i.size + news.length), ?_, by simp; omega⟩
          have e1 : C.toList.take (rc.shift + off + sLen * i.size) = C.toList.take (rc.shift + off) ++ olds := by
            rcases holds with q | q
            · rw [q, List.take_add]
              congr 1
              have hle : off + sLen * i.size ≤ mid.length ∨ sLen * i.size = 0 := by
                rcases Nat.eq_zero_or_pos (sLen * i.size) with k | k
                · exact .inr k
                · left
                  have : olds.length = sLen * i.size := by rw [← hol', hol]
                  rw [q] at this
                  simp at this
                  omega
              rcases hle with hle | hle
              · rw [hC, List.append_assoc, List.drop_append, List.drop_of_length_le (by omega), List.nil_append, List.drop_append, List.take_append]
                have z1 : rc.shift + off - pre.length = off := by omega
                rw [z1]
                have z2 : sLen * i.size - (mid.drop off).length = 0 := by simp; omega
                rw [z2, List.take_zero, List.append_nil]
              · rw [hle]; simp
            · have : olds = [] := List.eq_nil_of_length_eq_zero (by rw [← hol', hol, q])
              rw [q, this]; simp
          simp [e1]
        obtain ⟨pre', post', s1, s2⟩ := hsplit
        obtain ⟨φ', k1, k2, k3⟩ := Tn.regrow (P := P) (cs2 := old ++ new) (sh := rc.shift + off) (C2 := (C.toList.take (rc.shift + off + sLen * i.size + 0) ++ news ++ C.toList.drop (rc.shift + off + sLen * i.size + 0 + news.length)).toArray) (m2 := m) r hb hφ hf0
          (by have := hnl'; simp; omega) ⟨pre', olds ++ news, post', s1, s2, hor.append hnr⟩ (hnf rfl) hes
        have hap := append_fits (w := w) (ty := ty) (base := some ⟨rc.blk, rc.shift + off, none⟩) hu hux hi hlenx hge hnrun (w1 := _) (fun a ha => by
          simp only [Option.some.injEq] at ha
          subst ha
          rw [add_plain]
          exact hrun) (fun k => by simp at k)
        refine ⟨φ', _, _, hap, ?_, k3⟩
        have := VR.sliceO (φ := φ') (off := 0) (n := sLen + n) (c := c') k1 hc hge (by simp only [hes, hcell]; omega)
        simpa using this
    | sliceE hφ =>
      rename_i o' rc
      rcases Nat.eq_zero_or_pos n with hn0 | hn0
      · subst hn0
        obtain ⟨C, m, pre, mid, post, ho, hes, htot, hC, hsh, hlr, hnf⟩ := r.cells hb hφ
        have hnews : news = [] := List.eq_nil_of_length_eq_zero (by rw [← hnl', hnl]; simp)
        have holds : old = [] := List.eq_nil_of_length_eq_zero (by rw [hol]; simp)
        have hnew0 : new = [] := List.eq_nil_of_length_eq_zero (by rw [hnl]; simp)
        subst hnews holds hnew0
        obtain ⟨φ', k1, k2, k3⟩ := Tn.regrow (P := P) (cs2 := []) (sh := rc.shift) (C2 := C) (m2 := m) r hb hφ hf0 htot ⟨pre, [], mid ++ post, by rw [hC]; simp, hsh, trivial⟩ (hnf rfl) hes
        rw [setRow_same ho] at k3
        have hap := append_fits (w := w) (ty := ty) (base := some ⟨rc.blk, o', none⟩) (sLen := 0) (sCap := 0) hu hux hi hlenx (Nat.le_refl _) hnrun (w1 := w) (fun a ha => rfl) (fun k => rfl)
        exact ⟨φ', _, _, hap, VR.sliceE (φ := φ') k1, k3⟩
      · exact grow _ _ rfl (by omega)
  · split at hs
    · -- within the capacity
      rename_i hncap hle
      split at hs
      · rename_i b off
        split at hs
        · rename_i n hn0
          simp only [Option.some.injEq, Prod.mk.injEq] at hs
          obtain ⟨rfl, rfl⟩ := hs
          have hnews : news = [] := List.eq_nil_of_length_eq_zero (by rw [← hnl', hnl]; simp)
          subst hnews
          have gen : ∀ base', s' = .slice base' sLen sCap → Ends P φ h w (Builtin.append_ #[sType, xType] ty #[s', x']) (.slice (some ⟨b, off, none⟩) sLen sCap) h := by
            intro base' hs'
            have hv0 := hv
            subst hs'
            have hap := append_fits (w := w) (ty := ty) (base := base') (sLen := sLen) (sCap := sCap) hu hux hi hlenx hle hnrun (w1 := w) (fun a ha => rfl) (fun k => rfl)
            exact ⟨φ, _, _, hap, hv0, Tn.refl r⟩
          cases hv with
          | slice hφ hc => exact gen _ rfl
          | sliceO => exact absurd rfl hncap
          | sliceE => exact absurd rfl hncap
        · rename_i n0 n hn0
          split at hs
          rotate_left
          · simp at hs
          rename_i h2 hst
          simp only [Option.some.injEq, Prod.mk.injEq] at hs
          obtain ⟨rfl, rfl⟩ := hs
          cases hv with
          | sliceO => exact absurd rfl hncap
          | sliceE => exact absurd rfl hncap
          | slice hφ hc =>
            rename_i rc
            obtain ⟨w1, k1, k2⟩ := storeCells_sound (P := P) r hst hφ hnr
            have hap := append_fits (w := w) (ty := ty) (base := some ⟨rc.blk, rc.shift + off, none⟩) (sLen := sLen) (sCap := sCap) hu hux hi hlenx hle hnrun (w1 := w1) (fun a ha => by
              simp only [Option.some.injEq] at ha
              subst ha
              rw [add_plain, Nat.add_assoc]
              exact k1) (fun k => by simp at k)
            exact ⟨φ, _, _, hap, .slice hφ hc, k2⟩
      · simp only [Option.some.injEq, Prod.mk.injEq] at hs
        obtain ⟨rfl, rfl⟩ := hs
        cases hv with
        | sliceNil _ _ hc =>
          have hap := append_fits (w := w) (ty := ty) (base := none) (sLen := sLen) (sCap := sCap) hu hux hi hlenx hle hnrun (w1 := w) (fun a ha => by simp at ha) (fun k => rfl)
          exact ⟨φ, _, _, hap, .sliceNil _ _ hc, Tn.refl r⟩
      · simp at hs
    · split at hs
      rotate_left
      · simp at hs
      -- a slice of known capacity that must grow
      rename_i hncap hnle hc2
      obtain ⟨hsl, hroom, h63⟩ := hc2
      simp only [Option.some.injEq, Prod.mk.injEq] at hs
      obtain ⟨rfl, rfl⟩ := hs
      have hf0 := hf (by simp)
      obtain ⟨olds, hor, horun⟩ := firstC_run (P := P) r hv hold
      have hol' := hor.length
      have hcell : P.cellsOf elem = i.size := by simp [Program.cellsOf, hi]
      have grow : ∀ (base' : Option Addr), s' = .slice base' sLen sCap → Ends P φ h w (Builtin.append_ #[sType, xType] ty #[s', x']) (.slice (some ⟨h.next, 0, none⟩) (sLen + n) openCap) (h.alloc (.cells (old ++ new) elem false)) := by
        intro base' hs'
        subst hs'
        obtain ⟨cap, C, g1, g2, ⟨post, g3, g3'⟩, g4⟩ := append_grows (ty := ty) hu hux hi hz hzs hlenx (by omega) hroom h63 horun hnrun
        obtain ⟨φ', k1, k2⟩ := newRow_sound (P := P) (e := elem) (C := C) r hf0 (hor.append hnr) ⟨post, g3⟩ 1
        refine ⟨φ', _, _, g4, ?_, k2⟩
        have := VR.sliceO (φ := φ') (off := 0) (n := sLen + n) (c := cap) k1 g2 g1 (by
          simp only [hcell, Nat.zero_add]
          rw [← Array.length_toList, g3]
          simp only [List.length_append, g3', ← hol', ← hnl', hol, hnl, ← Nat.add_mul]
          congr 1
          omega)
        simpa using this
      cases hv with
      | slice hφ hc => exact grow _ rfl
      | sliceNil _ _ hc => exact grow _ rfl
      | sliceO => exact absurd rfl hncap
      | sliceE => exact absurd rfl hncap

/-- An append of zeros to nothing. -/
theorem appendZ_sound (G : Good P) (r : R P φ h w) {sType xType ty : TypeId} {s s' x x' v : Value} {h' : AH} (hs : aAppendZ P h sType xType s x = some (v, h')) (hv : VR φ s s') (hx : VR φ x x') (hf : h.next < h'.next → φ h.next = none) :
    Ends P φ h w (Builtin.append_ #[sType, xType] ty #[s', x']) v h' := by
  unfold aAppendZ at hs
  split at hs
  rotate_left
  · simp at hs
  rename_i elem k0 k l hu hux
  split at hs
  rotate_left
  · simp at hs
  rename_i i z hi hz
  split at hs
  rotate_left
  · simp at hs
  rename_i hc
  obtain ⟨hzl, hpos, hl0, hroom, hl1⟩ := hc
  simp only [Option.some.injEq, Prod.mk.injEq] at hs
  obtain ⟨rfl, rfl⟩ := hs
  have hf0 := hf (by simp)
  cases hv
  cases hx
  obtain ⟨n, rfl⟩ := Int.eq_ofNat_of_zero_le (Int.le_of_lt hl0)
  simp only [Int.toNat_natCast] at *
  have hzi : ∃ z0, i.zero = some z0 ∧ z = z0.cells.toList := by
    unfold zeroCellsOf at hz
    cases hb : Nat.blt elem P.types.size with
    | false => rw [hb] at hz; simp at hz
    | true =>
      rw [hb] at hz
      simp only [cond_true, hi] at hz
      split at hz
      · simp at hz
      · rename_i z0 hne hz0
        simp only [Option.some.injEq] at hz
        exact ⟨z0, hz0, hz.symm⟩
      · simp at hz
  obtain ⟨z0, hz0, rfl⟩ := hzi
  have hzs : z0.cells.size = i.size := by simpa using hzl
  have hn0 : 0 < n := by omega
  have hnz : n * i.size ≠ 0 := Nat.ne_of_gt (Nat.mul_pos hn0 hpos)
  have hnext : Builtin.nextslicecap (0 + n) 0 * i.bytes ≤ 281474976710656 := growslice_fits (by omega) (by rw [Nat.zero_add]; exact hroom)
  have e2 : ¬ (281474976710656 < Builtin.nextslicecap n 0 * i.bytes) := by
    rw [Nat.zero_add] at hnext
    omega
  have hw : IntKind.i64.wrap (n : Int) = n := by
    simp [IntKind.wrap, IntKind.bits, IntKind.signed]
    omega
  have hb : ¬ (281474976710656 < (n : Int) * (i.bytes : Int)) := by
    have h1 : n * i.bytes ≤ 140737488355328 := hroom
    rw [← Int.natCast_mul]
    generalize n * i.bytes = q at h1 ⊢
    omega
  have hn1 : ¬ ((n : Int) < 0) := by omega
  have hn2 : ¬ (n = 0) := by omega
  have e3 : ¬ (9223372036854775807 < (n : Int)) := by omega
  let cap := grownCap w n 0 elem
  have hge : n ≤ cap := grownCap_ge _ _ _ _
  have hle : cap < openCap := by
    have := grownCap_le_maxLen w n 0 elem (by simp only [maxLen]; omega)
    simp only [maxLen] at this
    simp only [openCap, cap]
    omega
  let C : Array Value := Builtin.zeroCells z0.cells n ++ Builtin.zeroCells z0.cells (cap - n)
  have hrun : (Builtin.append_ #[sType, xType] ty #[.slice none 0 0, .int k (n : Int)]).run P w = .ok (.slice (some ⟨w.heap.size, 0, none⟩) n cap) { w with heap := w.heap.push (.cells C elem), drawn := w.drawn + 1 } := by
    simp [Builtin.append_, underlying_run hu, underlying_run hux, sizeOf, typeInfo, hi, hw, hb, hn1, hn2, e2, e3, hnz, asInt, asIntOf, Builtin.firstCells, zeroValue, hz0, newRow, grownCap, Question.forced]
    exact ⟨rfl, rfl⟩
  obtain ⟨φ', k1, k2⟩ := newRow_sound (P := P) (e := elem) (C := C) r hf0 ((zeroCells_LR (φ := φ) G hz).replicate n) ⟨(Builtin.zeroCells z0.cells (cap - n)).toList, by
    simp only [C, Array.toList_append]
    congr 1
    exact zeros_eq rfl⟩ 1
  refine ⟨φ', _, _, hrun, ?_, k2⟩
  have hcell : P.cellsOf elem = i.size := by simp [Program.cellsOf, hi]
  have := VR.sliceO (φ := φ') (off := 0) (n := n) (c := cap) k1 hle hge (by
    simp only [hcell, Nat.zero_add, C]
    simp [Builtin.zeroCells, hzs]
    rw [← Nat.add_mul]
    congr 1
    omega)
  simpa using this
end Go.Am
