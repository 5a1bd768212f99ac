/-
  THE PILE in this program: blocks put, had, dropped.
-/
import Derived.Test.YteblpmcekhcgiadCSlab
import Derived.Test.YteblpmcekhcgiadCVdev
import Derived.Test.YteblpmcekhcgiadPFacts
import Derived.Test.YteblpmcekhcgiadAmF
set_option linter.unusedVariables false
set_option linter.unusedSimpArgs false
namespace Go.Am
open Go.Proofs
theorem fPtr (x y z : Int) : (Value.agg #[.int .i64 x, .int .u64 y, .int .u32 z]).formed Try.prog 36 = true := by
  simp [Value.formed]
theorem kPtr {x y z : Int} (hx : (Lit.int .i64 x).wf = true) (hy : (Lit.int .u64 y).wf = true) (hz : (Lit.int .u32 z).wf = true) : keyA Try.prog 36 (.agg #[.int .i64 x, .int .u64 y, .int .u32 z]) = some [.int .i64 x, .int .u64 y, .int .u32 z] := by
  rw [aKey_eq (fPtr x y z), aKey_structN Try.underlying36 (d := 39) rfl]
  have k3 := aKey_intN (P := Try.prog) Try.underlying3 (m := 39) (d := 38) rfl x
  have k4 := aKey_intN (P := Try.prog) Try.underlying33 (m := 39) (d := 38) rfl y
  have k5 := aKey_intN (P := Try.prog) Try.underlying34 (m := 39) (d := 38) rfl z
  rw [if_pos hx] at k3
  rw [if_pos hy] at k4
  rw [if_pos hz] at k5
  generalize Try.prog.keyLits 39 = KL at k3 k4 k5 ⊢
  simp [k3, k4, k5]
/-! ## The sum of a sector -/
def crcG : List Nat → Nat → Nat
  | [], x => x
  | c :: s, x => crcG s (crcs 8 (Nat.xor x c))
def crcOf (s : List Nat) : Nat := Nat.xor (crcG s 4294967295) 4294967295
theorem crcs_lt : ∀ (k : Nat) {x : Nat}, x < 4294967296 → crcs k x < 4294967296
  | 0, x, h => h
  | k + 1, x, h => crcs_lt k (crcStep_lt h)
theorem crcG_lt : ∀ (s : List Nat) {x : Nat}, (∀ c ∈ s, c < 256) → x < 4294967296 → crcG s x < 4294967296
  | [], x, hs, h => h
  | c :: s, x, hs, h => crcG_lt s (fun c hc => hs c (List.mem_cons_of_mem _ hc)) (crcs_lt 8 (Nat.xor_lt_two_pow (n := 32) h (by have := hs c (List.mem_cons_self ..); omega)))
theorem bytesC_nat : ∀ (s : List Nat) {x : Nat}, (∀ c ∈ s, c < 256) → x < 4294967296 → bytesC (natC .u8 s) x = some (crcG s x)
  | [], x, hs, h => rfl
  | c :: s, x, hs, h => by
    have hc := hs c (List.mem_cons_self ..)
    have hx : Nat.xor x c < 4294967296 := Nat.xor_lt_two_pow (n := 32) h (by omega)
    have h1 : (Nat.blt c 256 && Nat.blt (crcs 8 (Nat.xor x c)) 4294967296) = true := by
      rw [Bool.and_eq_true, Nat.blt_eq, Nat.blt_eq]
      exact ⟨hc, crcs_lt 8 hx⟩
    show cond (Nat.blt c 256 && Nat.blt (crcs 8 (Nat.xor x c)) 4294967296) (bytesC (natC .u8 s) (crcs 8 (Nat.xor x c))) none = _
    rw [h1]
    exact bytesC_nat s (fun c hc => hs c (List.mem_cons_of_mem _ hc)) (crcs_lt 8 hx)
theorem crcOf_lt {s : List Nat} (hs : ∀ c ∈ s, c < 256) : crcOf s < 4294967296 := Nat.xor_lt_two_pow (n := 32) (crcG_lt s hs (by decide)) (by decide)
section
variable {K : Xs} {h : AH}
theorem sumOf (hk : K 29 = none) (hm : K 38 = some (.sum xMore)) {b : Nat} {s : List Nat} (hs : Sec s) {ty : TypeId} {ro : Bool} (hb : h.get b = some (.cells (secC s) ty ro)) (c : Nat) :
    Wf Try.prog K 29 [.slice (some ⟨b, 0, none⟩) 128 c] h fun v h' => v = .int .u32 (crcOf s : Nat) ∧ h = h' := by
  refine vc_sum_Of hk _ _ _ h _ (Wf_sum hm (v := .int .u32 (crcOf s : Nat)) (h' := h) ?_ (Nat.le_refl _) ⟨_, rfl, rfl, rfl⟩)
  have hl := secC_len hs
  have e1 : (Nat.blt 0 4294967296 && Nat.ble (0 + 128) (secC s).length && Nat.blt 128 9223372036854775807) = true := by rw [hl]; rfl
  have e2 : bytesC (((secC s).drop 0).take 128) (Nat.xor 0 4294967295) = some (crcG s 4294967295) := by
    rw [List.drop_zero, List.take_of_length_le (by omega)]
    exact bytesC_nat s hs.2 (by decide)
  show xMore [.int .u32 (Int.ofNat 0), .slice (some ⟨b, 0, none⟩) 128 c] h = _
  simp only [xMore, hb, e1, e2, cond_true]
  rfl
end
/-! ## The pile's blocks -/
abbrev tPile : TypeId := 59
def Wfu (x : Int) : Prop := 0 ≤ x ∧ x ≤ 18446744073709551615
structure PileO (h : AH) (p : Nat) (F : List Nat) (d m : Nat) (Fd : List Nat) (W : Nat) (nw : List (List Nat)) (M : List Nat) (st ba : Int) : Prop where
  cell : h.get p = some (.cells [.pointer (some ⟨d, 0, none⟩), .pointer (some ⟨m, 0, none⟩), .int .u64 st, .int .u64 ba] tPile false)
  dev : DevO h d Fd W nw
  map : MapO h m M
  F_eq : F = p :: m :: Fd
  nodup : F.Nodup
  lt : p < h.next
  within : ∀ (i x : Nat), M[i]? = some x → x ≠ 0 → 4 ≤ i ∧ i < nw.length
section
variable {K : Xs} {h : AH} {p : Nat} {F : List Nat} {d m : Nat} {Fd : List Nat} {W : Nat} {nw : List (List Nat)} {M : List Nat} {st ba : Int}
theorem PileO.mem_lt (B : PileO h p F d m Fd W nw M st ba) : ∀ c ∈ F, c < h.next := by
  intro c hc
  rw [B.F_eq] at hc
  simp only [List.mem_cons] at hc
  rcases hc with rfl | rfl | hc
  · exact B.lt
  · exact B.map.2.1
  · exact B.dev.lt c hc
theorem PileO.keep {h' : AH} (B : PileO h p F d m Fd W nw M st ba) (hn : h.next ≤ h'.next) (hg : ∀ c ∈ F, h'.get c = h.get c) : PileO h' p F d m Fd W nw M st ba where
  cell := by rw [hg p (by rw [B.F_eq]; simp)]; exact B.cell
  dev := B.dev.keep hn fun c hc => hg c (by rw [B.F_eq]; simp [hc])
  map := B.map.same hn (hg m (by rw [B.F_eq]; simp))
  F_eq := B.F_eq
  nodup := B.nodup
  lt := Nat.lt_of_lt_of_le B.lt hn
  within := B.within
theorem PileO.old {h' : AH} (B : PileO h p F d m Fd W nw M st ba) (o : Old h h') : PileO h' p F d m Fd W nw M st ba := B.keep o.1 fun c hc => o.2 c (B.mem_lt c hc)
theorem PileO.nearN {h' : AH} {b : Nat} (B : PileO h p F d m Fd W nw M st ba) (n : Near b h h') (hb : b ∉ F) : PileO h' p F d m Fd W nw M st ba := B.keep (by rw [n.1]; exact Nat.le_refl _) fun c hc => n.2 c (fun q => hb (q ▸ hc))
theorem PileO.ndm (B : PileO h p F d m Fd W nw M st ba) : p ≠ m ∧ p ∉ Fd ∧ m ∉ Fd := by
  have := B.nodup
  rw [B.F_eq] at this
  simp only [List.nodup_cons, List.mem_cons, not_or] at this
  exact ⟨this.1.1, this.1.2, this.2.1⟩
/-- Another device. -/
theorem PileO.onDev {h' : AH} {Fd' : List Nat} {W' : Nat} {nw' : List (List Nat)} (B : PileO h p F d m Fd W nw M st ba) (D : DevO h' d Fd' W' nw') (f : Fr Fd h h' Fd') (hl : nw'.length = nw.length) :
    PileO h' p (p :: m :: Fd') d m Fd' W' nw' M st ba ∧ Fr F h h' (p :: m :: Fd') := by
  obtain ⟨n1, n2, n3⟩ := B.ndm
  have k1 : p ∉ Fd' := fun q => (f.2.2 p q).elim n2 (fun z => absurd B.lt (by omega))
  have k2 : m ∉ Fd' := fun q => (f.2.2 m q).elim n3 (fun z => absurd B.map.2.1 (by omega))
  have hd : ∀ (g : AH) (G : List Nat) (V : Nat) (w : List (List Nat)), DevO g d G V w → G.Nodup := fun g G V w D => by obtain ⟨⟨_, _, _, _, _, _, _, _, _, _, _, _, _, _, _, _, _, _, g10, _⟩, _, _⟩ := D; exact g10
  refine ⟨⟨by rw [f.2.1 p B.lt n2]; exact B.cell, D, B.map.same f.1 (f.2.1 m B.map.2.1 n3), rfl, ?_, Nat.lt_of_lt_of_le B.lt f.1, by rw [hl]; exact B.within⟩, f.1, fun c hc hn => f.2.1 c hc (fun q => hn (by rw [B.F_eq]; simp [q])), fun c hc => ?_⟩
  · simp only [List.nodup_cons, List.mem_cons, not_or]
    exact ⟨⟨n1, k1⟩, k2, hd _ _ _ _ D⟩
  · simp only [List.mem_cons] at hc
    rcases hc with rfl | rfl | hc
    · exact .inl (by rw [B.F_eq]; simp)
    · exact .inl (by rw [B.F_eq]; simp)
    · exact (f.2.2 c hc).imp (fun q => by rw [B.F_eq]; simp [q]) id
/-- Another map. -/
theorem PileO.onMap {h' : AH} {M' : List Nat} (B : PileO h p F d m Fd W nw M st ba) (hm : MapO h' m M') (n : Near m h h') (hw : ∀ (i x : Nat), M'[i]? = some x → x ≠ 0 → 4 ≤ i ∧ i < nw.length) :
    PileO h' p F d m Fd W nw M' st ba ∧ Fr F h h' F := by
  obtain ⟨n1, n2, n3⟩ := B.ndm
  exact ⟨⟨by rw [n.2 p n1]; exact B.cell, B.dev.nearN n n3, hm, B.F_eq, B.nodup, by rw [n.1]; exact B.lt, hw⟩, n.fr (by rw [B.F_eq]; simp)⟩
/-- Other stamps. -/
theorem PileO.onCell {h' : AH} {st' ba' : Int} (B : PileO h p F d m Fd W nw M st ba) (hc : h'.get p = some (.cells [.pointer (some ⟨d, 0, none⟩), .pointer (some ⟨m, 0, none⟩), .int .u64 st', .int .u64 ba'] tPile false)) (n : Near p h h') :
    PileO h' p F d m Fd W nw M st' ba' ∧ Fr F h h' F := by
  obtain ⟨n1, n2, n3⟩ := B.ndm
  exact ⟨⟨hc, B.dev.nearN n n2, B.map.near n (Ne.symm n1), B.F_eq, B.nodup, by rw [n.1]; exact B.lt, B.within⟩, n.fr (by rw [B.F_eq]; simp)⟩
theorem within_set {i v : Nat} (hw : ∀ (j x : Nat), M[j]? = some x → x ≠ 0 → 4 ≤ j ∧ j < nw.length) {u : Nat} (hi : M[i]? = some u) (hu : u ≠ 0) : ∀ (j x : Nat), (M.set i v)[j]? = some x → x ≠ 0 → 4 ≤ j ∧ j < nw.length := by
  intro j x hj hx
  rw [List.getElem?_set] at hj
  split at hj
  · rename_i q
    subst q
    exact hw i u hi hu
  · exact hw j x hj hx
theorem pileMap (hk : K 9 = none) (B : PileO h p F d m Fd W nw M st ba) : Wf Try.prog K 9 [.pointer (some ⟨p, 0, none⟩)] h fun v h' => v = .pointer (some ⟨m, 0, none⟩) ∧ h = h' :=
  vc_pile_Pile_Map hk _ h _ (derefP_at ⟨_, ld1_at B.cell rfl, rfl, rfl⟩)
theorem pileDev (hk : K 13 = none) (B : PileO h p F d m Fd W nw M st ba) : Wf Try.prog K 13 [.pointer (some ⟨p, 0, none⟩)] h fun v h' => v = .pointer (some ⟨d, 0, none⟩) ∧ h = h' :=
  vc_pile_Pile_Dev hk _ h _ (derefP_at ⟨_, ld1_at B.cell rfl, rfl, rfl⟩)
/-- Bytes as a sector. -/
def blkOf (data : List Nat) : List Nat := data ++ List.replicate (128 - data.length) 0
theorem blk_sec {data : List Nat} (hl : data.length ≤ 128) (hb : ∀ x ∈ data, x < 256) : Sec (blkOf data) := by
  refine ⟨by simp [blkOf]; omega, fun x hx => ?_⟩
  unfold blkOf at hx
  rw [List.mem_append, List.mem_replicate] at hx
  rcases hx with hx | hx
  · exact hb x hx
  · omega
theorem sliceSec (g : AH) (b : Nat) : aSlice Try.prog g 46 (.pointer (some ⟨b, 0, none⟩)) none none none = some (.slice (some ⟨b, 0, none⟩) 128 128) := by kernel_rfl
theorem eBytes : ElemOk Try.prog 22 5 1 1 := ElemOk_of (by kernel_rfl)
theorem blk_cells {data : List Nat} (hl : data.length ≤ 128) : (List.replicate 128 (Value.int .u8 0)).take 0 ++ (natC .u8 data).take 128 ++ (List.replicate 128 (Value.int .u8 0)).drop (0 + ((natC .u8 data).take 128).length) = secC (blkOf data) := by
  have e : (natC .u8 data).take 128 = natC .u8 data := List.take_of_length_le (by rw [natC_len]; exact hl)
  rw [e, List.take_zero, List.nil_append, natC_len, Nat.zero_add, List.drop_replicate]
  unfold secC blkOf
  rw [natC_app]
  congr 1
  unfold natC
  rw [List.map_replicate]
  rfl
theorem pileWrite (hk : K 42 = none) (hW : K 48 = none) (h1 : K 27 = none) (h2 : K 28 = none) (h3 : K 56 = none) (hS : K 29 = none) (hM : K 38 = some (.sum xMore))
    (B : PileO h p F d m Fd W nw M st ba) (hw : W < 100000) {i : Nat} (hi : i < nw.length) {pp : Option Addr} {n c : Nat} {data : List Nat} (hd : Shows h pp n 1 (natC .u8 data)) (hpp : pp = none ∨ ∃ b off, pp = some ⟨b, off, none⟩) (hl : data.length ≤ 128) (hb : ∀ x ∈ data, x < 256) :
    Wf Try.prog K 42 [.pointer (some ⟨p, 0, none⟩), .int .i64 i, .slice pp n c] h fun v h' => v = .tuple #[.agg #[.int .i64 i, .int .u64 st, .int .u32 (crcOf (blkOf data) : Nat)], .int .i64 0] ∧
      ∃ Fd', PileO h' p (p :: m :: Fd') d m Fd' (W + 1) (nw.set i (blkOf data)) M st ba ∧ Fr F h h' (p :: m :: Fd') := by
  refine vc_pile_Pile_write hk _ _ _ _ _ h _ fun g0 e0 g1 e1 => ⟨_, _, _, sliceSec _ _, ?_⟩
  have o0 : Old h g0 := by rw [e0]; exact Old_alloc _ _
  have o1 : Old g0 g1 := by rw [e1]; exact Old_alloc _ _
  have n0 : g0.next = h.next + 1 := by rw [e0]; rfl
  have n1 : g1.next = g0.next + 1 := by rw [e1]; rfl
  have B1 := B.old (o0.trans o1)
  have hF := B.mem_lt
  have nF0 : g0.next ∉ F := fun q => absurd (hF _ q) (by omega)
  have nFh : h.next ∉ F := fun q => absurd (hF _ q) (by omega)
  have c1 : g1.get g0.next = some (.cells (List.replicate 128 (.int .u8 0)) 46 false) := by rw [e1]; exact get_alloc_next _ _
  have ch : g1.get h.next = some (.cells [.int .i64 0, .int .u64 0, .int .u32 0] 36 false) := by rw [o1.2 _ (by omega), e0]; exact get_alloc_next _ _
  obtain ⟨g6, k1, k2, k3⟩ := copy_own eBytes (off := 0) c1 (by simp) (by decide) (n := 128) (c := 128) (c' := c) (hd.old (o0.trans o1)) hpp 22
  rw [blk_cells hl] at k3
  have hsec := blk_sec hl hb
  have B6 := B1.nearN k2 nF0
  have ch6 := (k2.2 h.next (by omega)).trans ch
  refine ⟨_, g6, k1, derefP_at ⟨_, ld1_at B6.cell rfl, _, ldN_all k3 (secC_len hsec), (devWrite hW h1 h2 h3 B6.dev hw i hsec).mono ?_⟩⟩
  rintro v g12 (⟨-, -, rfl, Fd', D12, f12⟩ | ⟨q, -⟩)
  rotate_left
  · exact absurd ⟨by omega, by omega⟩ q
  rw [Int.toNat_natCast] at D12
  obtain ⟨B12, F12⟩ := B6.onDev D12 f12 (by rw [List.length_set])
  have n6 : g6.next = g1.next := k2.1
  have nFd0 : g0.next ∉ Fd := fun q => nF0 (by rw [B.F_eq]; simp [q])
  have nFdh : h.next ∉ Fd := fun q => nFh (by rw [B.F_eq]; simp [q])
  have c12 : g12.get g0.next = _ := (f12.2.1 _ (by omega) nFd0).trans k3
  have ch12 : g12.get h.next = _ := (f12.2.1 _ (by omega) nFdh).trans ch6
  refine ⟨0, rfl, fun _ => ⟨_, _, _, sliceSec _ _, (sumOf hS hM hsec c12 128).mono ?_⟩, fun q => absurd rfl q⟩
  rintro _ g ⟨rfl, rfl⟩
  refine ⟨_, rfl, derefP_at ⟨st, ld1_at B12.cell rfl, rfl, _, stN_all ch12 rfl, ld1_at B12.cell rfl, ld1_at B12.cell rfl, _, _, _, ldN_all (get_set_self _ _ _) rfl, rfl, Fd', ?_, ?_⟩⟩
  · refine B12.nearN (near_set _ _ _) (fun q => ?_)
    rcases F12.2.2 _ q with z | z
    · exact nFh z
    · omega
  · exact (((((o0.trans o1).fr F).near_new k2 (by omega)).trans F12).near_new (near_set _ _ _) (Nat.le_refl _))
theorem PileO.notin {g g' : AH} {F' : List Nat} (f : Fr F h g F') {b : Nat} (hb : b ∉ F) (hl : b < h.next) : b ∉ F' := fun q => (f.2.2 b q).elim hb (fun z => by omega)
theorem lits_hole {x y z : Int} : litsEq [.int .i64 x, .int .u64 y, .int .u32 z] [.int .i64 0, .int .u64 0, .int .u32 0] = decide (x = 0 ∧ y = 0 ∧ z = 0) := lits3
/-- A pointer's numbers fit. -/
def PtrWf (x y z : Int) : Prop := (Lit.int .i64 x).wf = true ∧ (Lit.int .u64 y).wf = true ∧ (Lit.int .u32 z).wf = true
theorem kHole : keyA Try.prog 36 (.agg #[.int .i64 0, .int .u64 0, .int .u32 0]) = some [.int .i64 0, .int .u64 0, .int .u32 0] := kPtr (by decide) (by decide) (by decide)
theorem pileGet (hk : K 16 = none) (hR : K 14 = none) (h1 : K 27 = none) (h2 : K 28 = none) (hS : K 29 = none) (hM : K 38 = some (.sum xMore))
    (B : PileO h p F d m Fd W nw M st ba) {x y z : Int} (hwf : PtrWf x y z) :
    Wf Try.prog K 16 [.pointer (some ⟨p, 0, none⟩), .agg #[.int .i64 x, .int .u64 y, .int .u32 z]] h fun v h' => PileO h' p F d m Fd W nw M st ba ∧ Fr F h h' F ∧
      ((x = 0 ∧ y = 0 ∧ z = 0 ∧ v = .tuple #[.agg (secC (List.replicate 128 0)).toArray, .int .i64 0]) ∨
       (¬ (x = 0 ∧ y = 0 ∧ z = 0) ∧ ∃ s, 0 ≤ x ∧ nw[x.toNat]? = some s ∧ (crcOf s : Int) = z ∧ v = .tuple #[.agg (secC s).toArray, .int .i64 0]) ∨
       (¬ (x = 0 ∧ y = 0 ∧ z = 0) ∧ (∀ s, 0 ≤ x → nw[x.toNat]? = some s → (crcOf s : Int) ≠ z) ∧ v = .tuple #[.agg (secC (List.replicate 128 0)).toArray, .int .i64 91])) := by
  refine vc_pile_Pile_Get hk _ _ _ _ h _ fun g0 e0 g1 e1 => ?_
  have o0 := old_of_alloc e0
  have o1 := old_of_alloc e1
  have n0 := next_of_alloc e0
  have n1 := next_of_alloc e1
  have B1 := B.old (o0.trans o1)
  have hF := B.mem_lt
  have nFh : h.next ∉ F := fun q => absurd (hF _ q) (by omega)
  have nF0 : g0.next ∉ F := fun q => absurd (hF _ q) (by omega)
  have c1 := get_of_alloc e1
  have ch : g1.get h.next = _ := (o1.2 _ (by omega)).trans (get_of_alloc e0)
  have f1 : Fr F h g1 F := (o0.trans o1).fr F
  -- an answer is laid down, and read
  have fin : ∀ (g : AH), PileO g p F d m Fd W nw M st ba → Fr F h g F → ∀ {cs : List Value}, g.get g0.next = some (.cells cs 46 false) → cs.length = 128 → ∀ {vs : List Value}, vs.length = 128 →
      ∃ g3, stN g g0.next 0 vs = some g3 ∧ ldN g3 g0.next 0 128 = some vs ∧ PileO g3 p F d m Fd W nw M st ba ∧ Fr F h g3 F := by
    intro g Bg fg cs hg hcs vs hvs
    exact ⟨_, stN_all hg (by rw [hvs, hcs]), ldN_all (get_set_self _ _ _) hvs, Bg.nearN (near_set _ _ _) nF0, fg.near_new (near_set _ _ _) (by omega)⟩
  have zl : (List.replicate 128 (Value.int .u8 0)).length = 128 := by simp
  refine ⟨x, y, z, ldN_all ch rfl, _, _, kPtr hwf.1 hwf.2.1 hwf.2.2, kHole, fun q => ?_, fun q => ?_⟩
  · rw [lits_hole] at q
    obtain ⟨q1, q2, q3⟩ := of_decide_eq_true q
    obtain ⟨g3, k1, k2, B3, f3⟩ := fin g1 B1 f1 c1 zl zl
    exact ⟨_, zSec, zl, g3, k1, _, k2, B3, f3, .inl ⟨q1, q2, q3, by rw [secC_zero]⟩⟩
  rw [lits_hole] at q
  have hnz := of_decide_eq_false q
  refine derefP_at ⟨_, ld1_at B1.cell rfl, x, ld1_at ch rfl, (devRead hR h1 h2 B1.dev x).mono ?_⟩
  rintro v g15 ⟨D15, f15, hv⟩
  obtain ⟨B15, F15⟩ := B1.onDev D15 f15 rfl
  have hFeq : p :: m :: Fd = F := B.F_eq.symm
  rw [hFeq] at B15 F15
  have n15 := F15.1
  have nFd : ∀ b, b ∉ F → b ∉ Fd := fun b hb hq => hb (by rw [B.F_eq]; simp [hq])
  have c15 : g15.get g0.next = _ := (F15.2.1 _ (by omega) nF0).trans c1
  have ch15 : g15.get h.next = _ := (F15.2.1 _ (by omega) nFh).trans ch
  rcases hv with ⟨s, hx, hs, rfl⟩ | ⟨hx, rfl⟩
  · have hsec : Sec s := D15.secs s (List.mem_of_getElem? hs)
    have hl := secC_len hsec
    refine ⟨_, 0, rfl, fun g18 e18 => ⟨hl, _, stN_all (get_of_alloc e18) (by rw [hl]; simp), fun q2 => absurd q2 (by decide), fun _ => ⟨fun _ => ⟨_, _, _, sliceSec _ _, (sumOf hS hM hsec (get_set_self _ _ _) 128).mono ?_⟩, fun q2 => absurd rfl q2⟩⟩⟩
    have o18 := old_of_alloc e18
    have n18 := next_of_alloc e18
    have k1 := near_set g15.next g18 (.cells (secC s) 46 false)
    have B19 := (B15.old o18).nearN k1 (fun q2 => absurd (B15.mem_lt _ q2) (by omega))
    have F19 : Fr F h (g18.set g15.next (.cells (secC s) 46 false)) F := ((f1.trans F15).trans (o18.fr F)).near_new k1 (by omega)
    have c19 : (g18.set g15.next (.cells (secC s) 46 false)).get g0.next = _ := (k1.2 _ (by omega)).trans ((o18.2 _ (by omega)).trans c15)
    have ch19 : (g18.set g15.next (.cells (secC s) 46 false)).get h.next = _ := (k1.2 _ (by omega)).trans ((o18.2 _ (by omega)).trans ch15)
    rintro _ g ⟨rfl, rfl⟩
    refine ⟨_, rfl, z, ld1_at ch19 rfl, fun q2 => ⟨ld1_at ch19 rfl, ld1_at ch19 rfl, _, ldN_all (get_set_self _ _ _) hl, hl, ?_⟩, fun q2 => ⟨ld1_at ch19 rfl, ld1_at ch19 rfl, _, zSec, zl, ?_⟩⟩
    · obtain ⟨g3, k1, k2, B3, f3⟩ := fin _ B19 F19 c19 zl hl
      exact ⟨g3, k1, _, k2, B3, f3, .inr (.inl ⟨hnz, s, hx, hs, q2, rfl⟩)⟩
    · obtain ⟨g3, k1, k2, B3, f3⟩ := fin _ B19 F19 c19 zl zl
      refine ⟨g3, k1, _, k2, B3, f3, .inr (.inr ⟨hnz, fun s' _ hs' => ?_, by rw [secC_zero]⟩)⟩
      rw [hs] at hs'
      simp only [Option.some.injEq] at hs'
      rw [← hs']
      exact q2
  · have hl := secC_len sec_zero
    refine ⟨_, 41, rfl, fun g18 e18 => ⟨hl, _, stN_all (get_of_alloc e18) (by rw [hl]; simp), fun _ => ⟨_, zSec, zl, ?_⟩, fun q2 => absurd rfl q2⟩⟩
    have o18 := old_of_alloc e18
    have n18 := next_of_alloc e18
    have k1 := near_set g15.next g18 (.cells (secC (List.replicate 128 0)) 46 false)
    have B19 := (B15.old o18).nearN k1 (fun q2 => absurd (B15.mem_lt _ q2) (by omega))
    have F19 : Fr F h (g18.set g15.next (.cells (secC (List.replicate 128 0)) 46 false)) F := ((f1.trans F15).trans (o18.fr F)).near_new k1 (by omega)
    have c19 : (g18.set g15.next (.cells (secC (List.replicate 128 0)) 46 false)).get g0.next = _ := (k1.2 _ (by omega)).trans ((o18.2 _ (by omega)).trans c15)
    obtain ⟨g3, k1, k2, B3, f3⟩ := fin _ B19 F19 c19 zl zl
    refine ⟨g3, k1, _, k2, B3, f3, .inr (.inr ⟨hnz, fun s' h0 hs' => ?_, by rw [secC_zero]⟩)⟩
    exact absurd ⟨h0, by have := (List.getElem?_eq_some_iff.1 hs').1; omega⟩ hx
theorem made (hk : K 8 = none) (h1 : K 19 = none) (h2 : K 20 = none) (h3 : K 18 = none) (h4 : K 31 = none) (n : Nat) (hn : n ≤ 1024) (h : AH) :
    Wf Try.prog K 8 [.int .i64 n] h fun v h' => ∃ p F d m Fd, v = .pointer (some ⟨p, 0, none⟩) ∧ PileO h' p F d m Fd 0 (List.replicate n (List.replicate 128 0)) (newM n) 1 0 ∧ Old h h' ∧ ∀ c ∈ F, h.next ≤ c := by
  refine vc_aquiferlaw12_made hk _ h _ ((devNew h1 n hn h).mono ?_)
  rintro _ g1 ⟨d, Fd, rfl, D1, o1, hd⟩
  refine ⟨_, rfl, (mapNew h2 h4 n hn g1).mono ?_⟩
  rintro _ g4 ⟨rfl, M4, n4, g4o⟩
  have o4 : Old g1 g4 := ⟨by omega, g4o⟩
  refine ⟨_, rfl, vc_pile_New h3 _ _ _ _ g4 _ fun g7 e7 => ⟨_, rfl, g4.next, g4.next :: g1.next :: Fd, d, g1.next, Fd, rfl, ?_, ?_, ?_⟩⟩
  · have o7 := old_of_alloc e7
    have n7 := next_of_alloc e7
    have hlt := D1.lt
    refine ⟨get_of_alloc e7, (D1.old o4).old o7, M4.same o7.1 (o7.2 _ M4.2.1), rfl, ?_, by omega, ?_⟩
    · obtain ⟨⟨_, _, _, _, _, _, _, _, _, _, _, _, _, _, _, _, _, _, g10, _⟩, _, _⟩ := D1
      simp only [List.nodup_cons, List.mem_cons, not_or]
      exact ⟨⟨by omega, fun q => absurd (hlt _ q) (by omega)⟩, fun q => absurd (hlt _ q) (by omega), g10⟩
    · intro i x hi hx
      rw [List.length_replicate]
      by_cases q : i < 1024
      · simp [newM, q] at hi
        by_cases q2 : 4 ≤ i ∧ i < n
        · exact q2
        · rw [if_neg q2] at hi; exact absurd hi.symm hx
      · rw [List.getElem?_eq_none (by rw [newM_len]; omega)] at hi; cases hi
  · exact (o1.trans o4).trans (old_of_alloc e7)
  · intro c hc
    have h1 := o1.1
    have h4 := o4.1
    simp only [List.mem_cons] at hc
    rcases hc with rfl | rfl | hc
    · omega
    · omega
    · exact hd c hc
end
end Go.Am
