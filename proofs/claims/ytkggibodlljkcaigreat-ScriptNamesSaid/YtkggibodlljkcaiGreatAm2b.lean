/-
  Each operation of the abstract machine is met by the model's: loads, stores, addresses, slices.
-/
import Derived.Test.YtkggibodlljkcaiGreatAm2a
set_option linter.unusedVariables false
set_option linter.unusedSimpArgs false
namespace Go.Am
variable {P : Program} {φ φ' : Fi} {h h' : AH} {w w' : World}

theorem ev_tmp (e : Env) (t : Tmp) : ev e (.tmp t) = (e.get t).getD undef := rfl
theorem VR.plain {v : Value} (h : plainV v = true) : VR φ v v := by
  unfold plainV at h
  split at h
  · exact .bool _
  · exact .int _ _
  · exact .string _
  · exact .ptrNil
  · exact .sliceNil 0 0 (by decide)
  · exact .mapNil
  · exact .nilFunc
  · exact .nilIface
  · simp at h
theorem VR.eval {e : Env} {a : Array Value} (k : EnvR φ e a) (x : Operand) : VR φ (ev e x) (({ tmps := a, defers := [] } : Act).eval x) := by
  cases x with
  | tmp t => exact k t
  | const v =>
    simp only [ev, Act.eval]
    cases hp : plainV v with
    | false => exact .junk _
    | true => exact VR.plain hp
  | global g => exact .junk _
  | func f => exact .func (.func f) rfl rfl (by simp) (by simp)

/-! ## Types -/
theorem info_of_underlying {t : TypeId} {d : TypeDesc} (h : P.underlying t = some d) : (P.info? t).isSome = true := by
  unfold Program.underlying at h
  split at h <;> simp_all
theorem underlying_run {t : TypeId} {d : TypeDesc} (h : P.underlying t = some d) (w : World) : (underlying t).run P w = .ok d w := by simp [underlying, h]
theorem isAgg_run {t : TypeId} {b : Bool} (h : aggT P t = some b) (w : World) : (isAgg t).run P w = .ok b w := by
  unfold aggT at h
  unfold isAgg
  cases hd : P.underlying t with
  | none => simp [hd] at h
  | some d =>
    rw [hd] at h
    simp only [Sem.run_bind, underlying_run hd, Result.andThen_ok]
    cases d <;> simp at h <;> subst h <;> simp
theorem info_of_aggT {t : TypeId} {b : Bool} (h : aggT P t = some b) : (P.info? t).isSome = true := by
  unfold aggT at h
  cases hd : P.underlying t with
  | none => simp [hd] at h
  | some d => exact info_of_underlying hd
theorem sizeOf_run {t : TypeId} (h : (P.info? t).isSome = true) (w : World) : (sizeOf t).run P w = .ok (P.cellsOf t) w := by
  obtain ⟨i, hi⟩ := Option.isSome_iff_exists.1 h
  simp [sizeOf, typeInfo, hi, Program.cellsOf]
theorem zero_run {t : TypeId} {i : TypeInfo} {z : Value} (hi : P.info? t = some i) (hz : i.zero = some z) (w : World) : (zeroValue t).run P w = .ok z w := by
  simp [zeroValue, typeInfo, hi, hz]

/-! ## Memory -/
theorem add_plain (b o n : Nat) : (⟨b, o, none⟩ : Addr).add n = ⟨b, o + n, none⟩ := by unfold Addr.add; split <;> simp_all
/-- What stands in a block of the world, out of what stands in the abstract one. -/
theorem R.cells (r : R P φ h w) {b : Nat} {cs : List Value} {e : TypeId} {ro : Bool} {rc : Rec} (hb : h.get b = some (.cells cs e ro)) (hφ : φ b = some rc) :
    ∃ C m pre mid post, w.heap[rc.blk]? = some (.cells C e m) ∧ rc.esz = P.cellsOf e ∧ C.size = rc.total ∧ C.toList = pre ++ mid ++ post ∧ pre.length = rc.shift ∧ LR φ cs mid ∧ (ro = false → NF m rc.total) := by
  obtain ⟨o', ho, hr⟩ := r.obj b _ rc hb hφ
  cases o' <;> simp only [OR] at hr
  case cells C e' m =>
    obtain ⟨rfl, h1, h2, ⟨pre, mid, post, h3, h4, h5⟩, h6⟩ := hr
    exact ⟨C, m, pre, mid, post, ho, h1, h2, h3, h4, h5, h6⟩
theorem mid_at {C : Array Value} {pre mid post : List Value} {s : Nat} (hC : C.toList = pre ++ mid ++ post) (hs : pre.length = s) (i : Nat) (hi : i < mid.length) : C[s + i]? = mid[i]? := by
  rw [← Array.getElem?_toList, hC, List.append_assoc, List.getElem?_append_right (by omega), List.getElem?_append_left (by omega)]
  congr 1
  omega
theorem cell_mid {b s : Nat} {C : Array Value} {e : TypeId} {m : Nat × Nat} {pre mid post : List Value} (ho : w.heap[b]? = some (.cells C e m)) (hC : C.toList = pre ++ mid ++ post) (hs : pre.length = s)
    (i : Nat) (hi : i < mid.length) : w.cell? ⟨b, s + i, none⟩ = mid[i]? := by
  simp only [World.cell?, ho]
  exact mid_at hC hs i hi
theorem loadCells_mid {b s off n : Nat} {C : Array Value} {e : TypeId} {m : Nat × Nat} {pre mid post : List Value} (ho : w.heap[b]? = some (.cells C e m)) (hC : C.toList = pre ++ mid ++ post) (hs : pre.length = s)
    (hn : off + n ≤ mid.length) : (loadCells ⟨b, s + off, none⟩ n).run P w = .ok ((mid.drop off).take n).toArray w := by
  have hl : ((mid.drop off).take n).length = n := by simp; omega
  have := run_loadCells_list (P := P) (w := w) ⟨b, s + off, none⟩ ((mid.drop off).take n) (fun j v hj => by
    have hj' : j < n := by rcases Nat.lt_or_ge j n with k | k; exact k; (rw [List.getElem?_eq_none (by omega)] at hj; simp at hj)
    rw [add_plain, Nat.add_assoc, cell_mid ho hC hs (off + j) (by omega)]
    rw [List.getElem?_take, if_pos hj', List.getElem?_drop] at hj
    exact hj)
  rw [hl] at this
  exact this

theorem load_sound (r : R P φ h w) {t : TypeId} {v v' u : Value} (hl : aLoad P h t v = some u) (hv : VR φ v v') :
    ∃ u', (Instr.loadAt t v').run P w = .ok u' w ∧ VR φ u u' := by
  unfold aLoad at hl
  split at hl
  · rename_i b off
    split at hl
    · rename_i cs e ro hb
      cases hv with
      | ptr hφ =>
        rename_i rc
        obtain ⟨C, m, pre, mid, post, ho, _, _, hC, hs, hlr, _⟩ := r.cells hb hφ
        have hlen := hlr.length
        split at hl
        · rename_i hag
          split at hl
          · rename_i hle
            simp only [Option.some.injEq] at hl
            subst hl
            refine ⟨.agg ((mid.drop off).take (P.cellsOf t)).toArray, ?_, ?_⟩
            · simp [Instr.loadAt, Instr.sureAddr, loadVar, isAgg_run hag, sizeOf_run (info_of_aggT hag), loadCells_mid ho hC hs (show off + P.cellsOf t ≤ mid.length by omega)]
            · exact LR.agg (by simpa using (hlr.drop off).take (P.cellsOf t))
          · simp at hl
        · rename_i hag
          obtain ⟨hm, u', hu', hr⟩ := hlr.at off u hl
          refine ⟨u', ?_, hr⟩
          have hoff : off < mid.length := by
            rcases Nat.lt_or_ge off mid.length with k | k
            · exact k
            · rw [List.getElem?_eq_none k] at hu'; simp at hu'
          simp [Instr.loadAt, Instr.sureAddr, loadVar, isAgg_run hag, cell_mid ho hC hs off hoff, hu']
        · simp at hl
    · simp at hl
  · simp at hl

/-- A row of cells is written into a block whose cells are not frozen. -/
theorem storeCells_run (g o : Nat) (t : TypeId) (m : Nat × Nat) : ∀ (vs : List Value) (i : Nat) (cur : Array Value) (w : World), w.heap[g]? = some (.cells cur t m) → NF m cur.size → o + i + vs.length ≤ cur.size → (∀ v ∈ vs, v.oneCell' = true) →
    (storeCells ⟨g, o, none⟩ vs i).run P w = .ok () (w.setRow g (cur.toList.take (o + i) ++ vs ++ cur.toList.drop (o + i + vs.length)).toArray)
  | [], i, cur, w, hg, _, _, _ => by
    simp only [storeCells, List.append_nil, List.length_nil, Nat.add_zero, List.take_append_drop, Array.toArray_toList]
    rw [setRow_self w g cur t m hg]
    rfl
  | v :: rest, i, cur, w, hg, hf, hl, h1 => by
    have hi : o + i < cur.size := by simp at hl; omega
    have hadd : (⟨g, o, none⟩ : Addr).add i = ⟨g, o + i, none⟩ := add_plain g o i
    have hcell : w.cell? ⟨g, o + i, none⟩ = some cur[o + i] := by simp [World.cell?, hg, hi]
    have hfro : w.frozen? ⟨g, o + i, none⟩ = false := by
      have := hf.at (o + i) hi
      simp only [World.frozen?, hg]
      exact this
    have hst : (store ((⟨g, o, none⟩ : Addr).add i) v).run P w = .ok () (w.setRow g (cur.setIfInBounds (o + i) v)) := by
      rw [hadd, run_store P w _ v _ (h1 v (by simp)), hcell]
      simp [hfro, setCell_eq_setRow w g (o + i) cur t m v hg]
    have ih := storeCells_run g o t m rest (i + 1) (cur.setIfInBounds (o + i) v) (w.setRow g (cur.setIfInBounds (o + i) v)) (setRow_heap w g cur _ t _ hg) (by simpa using hf) (by simp at hl ⊢; omega) (fun x hx => h1 x (by simp [hx]))
    simp only [storeCells, Sem.run_bind, hst, Result.andThen_ok, ih, setRow_setRow]
    congr 3
    have e := list_seg_step cur.toList (o + i) v rest (by simp at hl ⊢; omega)
    simpa [Array.toList_setIfInBounds, Nat.add_assoc] using e

theorem setRow_eq {g : Nat} {cur cs : Array Value} {t : TypeId} {m : Nat × Nat} (hg : w.heap[g]? = some (.cells cur t m)) : w.setRow g cs = { w with heap := w.heap.setIfInBounds g (.cells cs t m), drawn := w.drawn + 0 } := by
  have hlt : g < w.heap.size := (Array.getElem?_eq_some_iff.1 hg).1
  have hv : w.heap[g] = .cells cur t m := (Array.getElem?_eq_some_iff.1 hg).2
  unfold World.setRow
  congr 1
  apply Array.ext_getElem?
  intro k
  rw [Array.getElem?_modify, Array.getElem?_setIfInBounds]
  by_cases hk : g = k
  · subst hk; simp [hlt, hv]
  · simp [hk]

/-- Cells are written into an abstract block: the world follows. -/
theorem storeCells_sound (r : R P φ h w) {b off : Nat} {vs ws : List Value} {h' : AH} {rc : Rec} (hs : aStoreCells h b off vs = some h') (hφ : φ b = some rc) (hl : LR φ vs ws) :
    ∃ w', (storeCells ⟨rc.blk, rc.shift + off, none⟩ ws).run P w = .ok () w' ∧ Tn P φ h w φ h' w' := by
  unfold aStoreCells at hs
  split at hs
  · rename_i cs e hb
    split at hs
    · rename_i hle
      simp only [Option.some.injEq] at hs
      subst hs
      obtain ⟨C, m, pre, mid, post, ho, hes, htot, hC, hsh, hlr, hnf⟩ := r.cells hb hφ
      have hlen := hlr.length
      have hlen2 := hl.length
      have hsz : C.size = pre.length + mid.length + post.length := by rw [← Array.length_toList, hC]; simp; omega
      have hrun := storeCells_run (P := P) rc.blk (rc.shift + off) e m ws 0 C w ho (by rw [htot]; exact hnf rfl) (by omega) hl.one
      have hrow : (C.toList.take (rc.shift + off + 0) ++ ws ++ C.toList.drop (rc.shift + off + 0 + ws.length)).toArray = (pre ++ (mid.take off ++ ws ++ mid.drop (off + ws.length)) ++ post).toArray := by
        congr 1
        rw [hC, Nat.add_zero]
        have e1 : (pre ++ mid ++ post).take (rc.shift + off) = pre ++ mid.take off := by
          rw [List.append_assoc, List.take_append, List.take_of_length_le (by omega), List.take_append]
          have : rc.shift + off - pre.length - mid.length = 0 := by omega
          rw [this, List.take_zero, List.append_nil]
          congr 2
          omega
        have e2 : (pre ++ mid ++ post).drop (rc.shift + off + ws.length) = mid.drop (off + ws.length) ++ post := by
          rw [List.append_assoc, List.drop_append, List.drop_of_length_le (by omega), List.nil_append, List.drop_append]
          have : rc.shift + off + ws.length - pre.length - mid.length = 0 := by omega
          rw [this, List.drop_zero]
          congr 2
          omega
        rw [e1, e2]
        simp [List.append_assoc]
      rw [hrow, setRow_eq ho] at hrun
      refine ⟨_, hrun, ?_⟩
      refine Tn.put r hb hφ rfl ?_ 0
      refine ⟨rfl, hes, ?_, ⟨pre, mid.take off ++ ws ++ mid.drop (off + ws.length), post, rfl, hsh, ?_⟩, fun _ => hnf rfl⟩
      · simp; omega
      · rw [← hlen2]
        exact ((hlr.take off).append hl).append (hlr.drop _)
    · simp at hs
  · simp at hs

theorem store_sound (r : R P φ h w) {t : TypeId} {a a' v v' : Value} {h' : AH} (hs : aStore P h t a v = some h') (ha : VR φ a a') (hv : VR φ v v') :
    ∃ w', (Instr.storeAt t a' v').run P w = .ok () w' ∧ Tn P φ h w φ h' w' := by
  unfold aStore at hs
  split at hs
  · simp at hs
  · rename_i b off hnt
    split at hs
    · rename_i hsz
      cases ha with
      | ptr hφ =>
        rename_i rc
        have hlr := hv.cells (fun xs e => hnt xs e)
        obtain ⟨w', hw, ht⟩ := storeCells_sound r hs hφ hlr
        refine ⟨w', ?_, ht⟩
        have hl := hlr.length
        simp only [Array.length_toList] at hl
        simp [Instr.storeAt, Instr.sureAddr, storeVar, sizeOf_run hsz.2, ← hl, hsz.1, hw]
    · simp at hs
  · simp at hs

/-! ## Addresses -/
theorem fieldAddr_sound {s : TypeId} {x x' u : Value} {f : Nat} (hs : aFieldAddr P s x f = some u) (hx : VR φ x x') (w : World) :
    ∃ u', (Instr.fieldAt s x' f).run P w = .ok u' w ∧ VR φ u u' := by
  unfold aFieldAddr at hs
  split at hs
  · rename_i fs hu
    split at hs
    · rename_i fd b off hf
      split at hs
      · simp at hs
      · rename_i hz
        simp only [Option.some.injEq] at hs
        subst hs
        have hinfo : (P.info? fd.type).isSome = true := by
          unfold Program.cellsOf at hz
          cases hq : P.info? fd.type with
          | none => rw [hq] at hz; simp at hz
          | some i => rfl
        cases hx with
        | ptr hφ =>
          refine ⟨_, ?_, .ptr hφ⟩
          simp [Instr.fieldAt, underlying_run hu, hf, Instr.sureAddr, fieldPlace, sizeOf_run hinfo, hz, add_plain, Nat.add_assoc]
    · simp at hs
  · simp at hs

theorem indexAddr_sound {t : TypeId} {x x' i i' u : Value} (hs : aIndexAddr P t x i = some u) (hx : VR φ x x') (hi : VR φ i i') (w : World) :
    ∃ u', (Instr.indexAt t x' i').run P w = .ok u' w ∧ VR φ u u' := by
  unfold aIndexAddr at hs
  split at hs
  · rename_i n elem b off k j hu
    split at hs
    · rename_i hc
      simp only [Option.some.injEq] at hs
      subst hs
      cases hi
      cases hx with
      | ptr hφ =>
        refine ⟨_, ?_, .ptr hφ⟩
        simp [Instr.indexAt, asIntOf, underlying_run hu, Instr.sureAddr, hc.1, hc.2.1, sizeOf_run hc.2.2, add_plain, Nat.add_assoc]
    · simp at hs
  · rename_i elem b off n c k j hu
    split at hs
    · rename_i hc
      simp only [Option.some.injEq] at hs
      subst hs
      cases hi
      cases hx with
      | slice hφ _ =>
        refine ⟨_, ?_, .ptr hφ⟩
        simp [Instr.indexAt, asIntOf, underlying_run hu, hc.1, hc.2.1, sizeOf_run hc.2.2, add_plain, Nat.add_assoc]
      | sliceO hφ _ _ _ =>
        refine ⟨_, ?_, .ptr hφ⟩
        simp [Instr.indexAt, asIntOf, underlying_run hu, hc.1, hc.2.1, sizeOf_run hc.2.2, add_plain, Nat.add_assoc]
      | sliceE hφ => exact absurd hc.2.1 (by omega)
    · simp at hs
  · simp at hs

theorem extract_list (cs : Array Value) (a b : Nat) : (cs.extract a b).toList = (cs.toList.drop a).take (b - a) := by
  simp [Array.toList_extract, List.extract_eq_take_drop]
theorem part_sound {t : TypeId} {cs cs' : Array Value} {off : Nat} {u : Value} (hs : aPart P t cs off = some u) (hc : LR φ cs.toList cs'.toList) (w : World) :
    ∃ u', (part t cs' off).run P w = .ok u' w ∧ VR φ u u' := by
  unfold aPart at hs
  split at hs
  · rename_i hag
    simp only [Option.some.injEq] at hs
    subst hs
    refine ⟨.agg (cs'.extract off (off + P.cellsOf t)), by simp [part, isAgg_run hag, sizeOf_run (info_of_aggT hag)], LR.agg ?_⟩
    rw [extract_list, extract_list]
    exact (hc.drop off).take _
  · rename_i hag
    obtain ⟨_, u', hu', hr⟩ := hc.at off u (by simpa using hs)
    refine ⟨u', ?_, hr⟩
    have : cs'[off]? = some u' := by simpa using hu'
    simp [part, isAgg_run hag, this]
  · simp at hs
theorem index_sound {t : TypeId} {x x' i i' u : Value} (hs : aIndex P t x i = some u) (hx : VR φ x x') (hi : VR φ i i') (w : World) :
    ∃ u', (Instr.index t x' i').run P w = .ok u' w ∧ VR φ u u' := by
  unfold aIndex at hs
  split at hs
  · rename_i n elem cs k j hu
    split at hs
    · rename_i hc
      cases hi
      obtain ⟨cs', rfl, hl⟩ := hx.toLR
      obtain ⟨u', h1, h2⟩ := part_sound hs hl w
      exact ⟨u', by simp [Instr.index, asIntOf, underlying_run hu, hc.1, hc.2.1, sizeOf_run hc.2.2, h1], h2⟩
    · simp at hs
  · rename_i s k j hu
    split at hs
    · rename_i hc
      cases hi
      cases hx
      cases hb : s[j.toNat]? with
      | none => simp [hb] at hs
      | some c =>
        simp [hb] at hs
        subst hs
        exact ⟨_, by simp [Instr.index, asIntOf, underlying_run hu, hc, hb], .int _ _⟩
    · simp at hs
  · simp at hs
theorem field_sound {t : TypeId} {x x' u : Value} {f : Nat} (hs : aField P t x f = some u) (hx : VR φ x x') (w : World) :
    ∃ u', (Instr.field t x' f).run P w = .ok u' w ∧ VR φ u u' := by
  unfold aField at hs
  split at hs
  · rename_i fs cs hu
    split at hs
    · rename_i fd hf
      obtain ⟨cs', rfl, hl⟩ := hx.toLR
      obtain ⟨u', h1, h2⟩ := part_sound hs hl w
      exact ⟨u', by simp [Instr.field, underlying_run hu, hf, asAgg, h1], h2⟩
    · simp at hs
  · simp at hs
end Go.Am
