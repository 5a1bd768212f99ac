/-
  SCRIPTS AS BYTES: the program's and the document's.
-/
import Derived.Test.YtbadadkkpihkfaaGreatCScrC1
set_option linter.unusedVariables false
set_option linter.unusedSimpArgs false
set_option maxRecDepth 100000
namespace Go.Am
open Go.Proofs
theorem orB {x : Option Value} {b : Bool} {A B : Prop} (h : x = some (.bool b)) (h1 : b = true → A) (h2 : b = false → B) : (x = some (.bool true) ∧ A) ∨ (x = some (.bool false) ∧ B) := by
  cases b
  · exact .inr ⟨h, h2 rfl⟩
  · exact .inl ⟨h, h1 rfl⟩
theorem natC_strB (s : ByteArray) : natC .u8 (strB s) = s.data.toList.map fun b => Value.int .u8 b.toNat := by
  simp [natC, strB]
theorem convBs {h : AH} {s : ByteArray} (hs : s.size ≤ reachBytes) : aConvert Tryz.prog h 9 26 (.string s) = some (.slice (some ⟨h.next, 0, none⟩) s.size openCap, h.alloc (.cells (natC .u8 (strB s)) 5 false)) := by
  have h1 : roomMax = 140737488355328 := rfl
  have h2 : reachBytes = 140737488351232 := rfl
  have hc : Tryz.prog.cellsOf 5 = 1 := by simp
  unfold aConvert
  rw [Tryz.underlying9, Tryz.underlying26]
  simp only [Tryz.underlying5]
  rw [if_pos ⟨by omega, hc⟩, natC_strB]
theorem bytes_natS : ∀ data : List Nat, bytesOfCells (natC .u8 data) = some (data.map UInt8.ofNat)
  | [] => rfl
  | x :: xs => by
    show (bytesOfCells (natC .u8 xs)).map (UInt8.ofNat ((x : Nat) : Int).toNat :: ·) = _
    rw [bytes_natS xs, Int.toNat_natCast]
    rfl
theorem convSb {h : AH} {p : Option Addr} {n c : Nat} {data : List Nat} (T : Text h p n data) : aConvert Tryz.prog h 26 9 (.slice p n c) = some (.string (strOf data), h) := by
  unfold aConvert
  rw [Tryz.underlying26, Tryz.underlying9]
  simp only [Tryz.underlying5, T.2.2.2.1.firstC T.1, bytes_natS]
  rfl
/-- A text of one's own, new. -/
def TextN (lim : Nat) (h : AH) (p : Option Addr) (n c : Nat) (t : Bs) : Prop := Text h p n t ∧ CutP Tryz.prog h 5 p n c ∧ ∀ a, p = some a → lim ≤ a.block ∧ a.block < h.next
theorem TextN.old {lim : Nat} {h h' : AH} {p : Option Addr} {n c : Nat} {t : Bs} (T : TextN lim h p n c t) (o : Old h h') : TextN lim h' p n c t := ⟨T.1.old o, T.2.1.old o fun a ha => (T.2.2 a ha).2, fun a ha => ⟨(T.2.2 a ha).1, Nat.lt_of_lt_of_le (T.2.2 a ha).2 o.1⟩⟩
theorem TextN.weak {lim lim' : Nat} {h : AH} {p : Option Addr} {n c : Nat} {t : Bs} (T : TextN lim h p n c t) (hl : lim' ≤ lim) : TextN lim' h p n c t := ⟨T.1, T.2.1, fun a ha => ⟨Nat.le_trans hl (T.2.2 a ha).1, (T.2.2 a ha).2⟩⟩
theorem text_new {g g' : AH} {t : Bs} {c : Nat} (e : g' = g.alloc (.cells (natC .u8 t) 5 false)) (hl : t.length ≤ reachBytes) (hb : ∀ x ∈ t, x < 256) (hc : c = openCap ∨ (t.length ≤ c ∧ c < openCap)) : TextN g.next g' (some ⟨g.next, 0, none⟩) t.length c t := by
  have hcell : Tryz.prog.cellsOf 5 = Tryz.prog.cellsOf 5 := rfl
  refine ⟨⟨.inr ⟨_, _, rfl⟩, rfl, hl, ⟨by rw [natC_len, Nat.mul_one], .inr ⟨g.next, 0, _, _, _, rfl, by rw [next_of_alloc e]; omega, get_of_alloc e, by rw [natC_len]; omega, ?_⟩⟩, hb⟩, .inr ⟨_, _, rfl, ?_⟩, fun a ha => by cases ha; exact ⟨Nat.le_refl _, by rw [next_of_alloc e]; exact Nat.lt_succ_self _⟩⟩
  · rw [List.drop_zero, Nat.mul_one]; exact List.take_of_length_le (by rw [natC_len]; exact Nat.le_refl _)
  · rcases hc with hc | hc
    · exact .inr ⟨hc, _, _, _, get_of_alloc e, rfl⟩
    · exact .inl hc
theorem join_text {lim : Nat} {h : AH} {b n c : Nat} {t : Bs} (hn : n = t.length) (hl : t.length ≤ 1000000000000) (hlim : lim ≤ b) (hb : b < h.next) (S : Shows h (some ⟨b, 0, none⟩) n 1 (natC .u8 t)) (hx : ∀ x ∈ t, x < 256) (hc : c = n) : TextN lim h (some ⟨b, 0, none⟩) n c t := by
  have h2 : reachBytes = 140737488351232 := rfl
  exact ⟨⟨.inr ⟨_, _, rfl⟩, hn, by omega, S, hx⟩, .inr ⟨_, _, rfl, .inl ⟨by omega, by simp only [openCap]; omega⟩⟩, fun a ha => by cases ha; exact ⟨hlim, hb⟩⟩
theorem grow_text {lim : Nat} {h : AH} {p : Option Addr} {n c : Nat} {t : Bs} (G : Grow lim h 5 1 p n c (natC .u8 t)) (hl : n ≤ 1000000000000) (hx : ∀ x ∈ t, x < 256) : TextN lim h p n c t := by
  have h2 : reachBytes = 140737488351232 := rfl
  have := G.1
  rw [natC_len] at this
  exact ⟨⟨G.form, by omega, by omega, G.shows, hx⟩, G.cutP (by simp only [openCap]; omega), fun a ha => G.block ha⟩
theorem TextN.pform {lim : Nat} {h : AH} {p : Option Addr} {n c : Nat} {t : Bs} (T : TextN lim h p n c t) : p = none ∨ ∃ b off, p = some ⟨b, off, none⟩ := T.1.1
/-- A few texts in a row that is just made. -/
theorem rows_new {g g' : AH} {cells : List Value} {ts : List Bs} (e : g' = g.alloc (.cells cells 26 false)) (hl : cells.length = ts.length) (h : ∀ (i : Nat) (hi : i < ts.length), ∃ p' n' c', cells[i]? = some (.slice p' n' c') ∧ Text g p' n' ts[i]) : Rows g' (some ⟨g.next, 0, none⟩) ts.length ts := by
  refine ⟨rfl, cells, ⟨by rw [Nat.mul_one]; exact hl, .inr ⟨g.next, 0, _, _, _, rfl, by rw [next_of_alloc e]; omega, get_of_alloc e, by omega, ?_⟩⟩, fun i hi => ?_⟩
  · rw [List.drop_zero, Nat.mul_one, ← hl, List.take_length]
  · obtain ⟨p', n', c', q1, q2⟩ := h i hi
    exact ⟨p', n', c', q1, q2.old (old_of_alloc e)⟩
theorem RowsG.one {lim : Nat} {g g' : AH} {p : Option Addr} {n c : Nat} {t : Bs} (e : g' = g.alloc (.cells [.slice p n c] 26 false)) (hl : lim ≤ g.next) (T : TextN lim g p n c t) : RowsG lim g' (some ⟨g.next, 0, none⟩) 1 1 [t] := by
  refine ⟨rfl, _, Grow.lit e rfl hl, fun i hi => ?_⟩
  have : i = 0 := by simp at hi; omega
  subst this
  have o := old_of_alloc e
  exact ⟨p, n, c, rfl, T.1.old o, T.2.1.old o fun a ha => (T.2.2 a ha).2, fun a ha => ⟨(T.2.2 a ha).1, by have := (T.2.2 a ha).2; have := o.1; omega, by have := (T.2.2 a ha).2; show g.next ≠ a.block; omega⟩⟩
theorem five_rows {g : AH} {a b c d e : Bs} {pa pb pc pd pe : Option Addr} {na nb nc nd ne ca cb cc cd ce : Nat} (ha : Text g pa na a) (hb : Text g pb nb b) (hc : Text g pc nc c) (hd : Text g pd nd d) (he : Text g pe ne e) :
    ∀ (i : Nat) (hi : i < [a, b, c, d, e].length), ∃ p' n' c', [Value.slice pa na ca, .slice pb nb cb, .slice pc nc cc, .slice pd nd cd, .slice pe ne ce][i]? = some (.slice p' n' c') ∧ Text g p' n' [a, b, c, d, e][i] := by
  intro i hi
  match i, hi with
  | 0, _ => exact ⟨_, _, _, rfl, ha⟩
  | 1, _ => exact ⟨_, _, _, rfl, hb⟩
  | 2, _ => exact ⟨_, _, _, rfl, hc⟩
  | 3, _ => exact ⟨_, _, _, rfl, hd⟩
  | 4, _ => exact ⟨_, _, _, rfl, he⟩
theorem shows_new {g g' : AH} {cs : List Value} {ty : TypeId} (e : g' = g.alloc (.cells cs ty false)) {n : Nat} (hn : cs.length = n) : Shows g' (some ⟨g.next, 0, none⟩) n 1 cs := by
  refine ⟨by rw [Nat.mul_one]; exact hn, .inr ⟨g.next, 0, _, _, _, rfl, by rw [next_of_alloc e]; omega, get_of_alloc e, by omega, ?_⟩⟩
  rw [List.drop_zero, Nat.mul_one, ← hn, List.take_length]
theorem Bools.at {h : AH} {p : Option Addr} {n : Nat} {l : List Bool} (T : Bools h p n l) {j : Nat} (hj : j < n) : ∃ b off, p = some ⟨b, off, none⟩ ∧ ∃ (hj' : j < l.length), ld1 h b (off + j) = some (.bool l[j]) := by
  obtain ⟨b, off, hp, hl⟩ := T.2.2.2.get hj
  have hj' : j < l.length := by have := T.2.1; omega
  rw [bolC_get hj'] at hl
  exact ⟨b, off, hp, hj', hl⟩
theorem keepB_at {k : List Bool} {j : Nat} (hj : j < k.length) (hj' : j < (keepB k).length) : (keepB k)[j] = if k[j] then 1 else 0 := by simp [keepB]
theorem OpA.put {o : OpP} (a : OpA o) : o.kind = ((o.kind.toNat : Nat) : Int) ∧ o.kind.toNat < 256 ∧ nB o.n < 65536 := by
  obtain ⟨h1, -, -, -, -, -, h7, -⟩ := a
  exact ⟨by omega, by omega, nB_lt (by omega)⟩
/-- What a script's bytes are answered. -/
def BytesQ (lim : Nat) (s : ScrP) (v : Value) (g : AH) : Prop := (ScrOk s ∧ ∃ p c, v = .tuple #[.slice p (scrB s).length c, .int .i64 0] ∧ TextN lim g p (scrB s).length c (scrB s)) ∨ (¬ ScrOk s ∧ v = .tuple #[.slice none 0 0, .int .i64 231])
/-- What is known of an op's parts: bytes. -/
def OpD (o : OpP) : Prop := ∀ x ∈ o.data, x < 256
theorem Ops.bytes {h : AH} {p : Option Addr} {n : Nat} {os : List OpP} (t : Ops h p n os) : ∀ o ∈ os, OpD o := fun o ho => by
  obtain ⟨i, hi, rfl⟩ := List.mem_iff_getElem.1 ho
  obtain ⟨t1, t2, t3, cells, t4, t5⟩ := t
  obtain ⟨pd, nd, cd, pk, nk, ck, e, t6, -⟩ := t5 i hi
  exact t6.2.2.2.2
theorem scrB_lt {s : ScrP} (hd : ∀ o ∈ s.ops, OpD o) : ∀ x ∈ scrB s, x < 256 := by
  refine joinB_lt fun t ht x hx => ?_
  rcases List.mem_cons.1 ht with rfl | ht
  · exact byB_lt hx
  · obtain ⟨o, ho, rfl⟩ := List.mem_map.1 ht
    exact opB_lt (hd o ho) x hx
theorem joinB_size (ts : List Bs) : (joinB ts).length = 2 + sizeB ts := by rw [joinB_len]; rfl
theorem scrB_len {s : ScrP} (k : ScrOk s) : (scrB s).length ≤ 100000 := by
  rw [scrB, joinB_size]
  have h1 := sizeB_le (ts := scrTs s) fun t ht => by have := scrTs_lt k t ht; omega
  have : ∀ (l : List Bs), (∀ t ∈ l, t.length ≤ 400) → sizeB l ≤ l.length * 402 := by
    intro l
    induction l with
    | nil => intro _; exact Nat.zero_le _
    | cons t l ih =>
      intro h
      have h1 := h t (by simp)
      have h2 := ih fun x hx => h x (by simp [hx])
      simp only [sizeB, List.map_cons, List.sum_cons, List.length_cons] at *
      omega
  have h2 := this (scrTs s) fun t ht => by
    rcases List.mem_cons.1 ht with rfl | ht
    · rw [byB_len]; omega
    · obtain ⟨o, ho, rfl⟩ := List.mem_map.1 ht
      exact opB_len (k.ops o ho)
  have h3 := k.len
  have h4 : (scrTs s).length = s.ops.length + 1 := by simp [scrTs]
  omega
structure KScr (K : Xs) : Prop where
  put : K 15 = none
  room : K 29 = none
  join : K 17 = none
  opB : K 16 = none
  right : K 10 = none
  opR : K 20 = none
  parts : K 32 = none
  bytes : K 7 = none
section
variable {K : Xs} {h : AH}
theorem opBytesSpec (kk : KScr K) {p : Option Addr} {n : Nat} {os : List OpP} (T : Ops h p n os) {b off i : Nat} (ep : p = some ⟨b, off, none⟩) (hi : i < n) (hi' : i < os.length) (A : OpA os[i]) :
    Wf Tryz.prog K 16 [.pointer (some ⟨b, off + i * 6, none⟩)] h fun v h' => (∃ p' c', v = .tuple #[.slice p' (opB os[i]).length c', .int .i64 0] ∧ TextN h.next h' p' (opB os[i]).length c' (opB os[i])) ∧ Old h h' := by
  obtain ⟨b', off', e, hi2, pd, nd, cd, pk, nk, ck, -, l0, l1, l2, l3, l4, l5, td, tk, s1, s2, lt⟩ := T.at hi
  rw [ep] at e
  cases e
  have hD := T.bytes _ (List.getElem_mem hi')
  generalize os[i] = o at *
  obtain ⟨ak, ak2, an⟩ := A.put
  have hnk := tk.2.1
  have hre : reachBytes = 140737488351232 := rfl
  have m : ∀ {g : AH}, Old h g → ∀ (j : Nat) v, ld1 h b (off + i * 6 + j) = some v → ld1 g b (off + i * 6 + j) = some v := fun oo j v z => by rw [← z]; unfold ld1; rw [oo.2 b lt]
  have hA := A
  obtain ⟨a1, a2, a3, a4, a5, a6, a7, a8, a9, a10, a11⟩ := A
  refine vc_script_opBytes kk.opB _ h _ (derefP_at ⟨_, l3, fun z => derefP_at ⟨_, l3, fun i6 e6 g7 e7 => derefP_at ⟨_, m (old_of_alloc e7) 0 _ l0, fun i11 e11 g12 e12 => ?_⟩⟩, fun z g7 e7 => derefP_at ⟨_, m (old_of_alloc e7) 0 _ l0, fun i11 e11 g12 e12 => ?_⟩⟩)
  · have e6 := u64w e6 (by omega) (by omega)
    have e11 := u64w e11 (by omega) (by omega)
    have e12 : g12 = g7.alloc (.cells (natC .u64 [o.kind.toNat, nB o.n]) 46 false) := by
      rw [e12, e11, e6]
      simp only [natC, List.map_cons, List.map_nil, ← ak]
      rw [show ((nB o.n : Nat) : Int) = o.n by unfold nB; rw [if_neg (by omega)]; omega]
    clear e11 e6
    generalize g12 = G12 at *
    have o7 := old_of_alloc e7
    have o12 := o7.trans (old_of_alloc e12)
    have n7 := next_of_alloc e7
    have n12 := next_of_alloc e12
    have S7 : Shows G12 (some ⟨h.next, 0, none⟩) 2 1 (natC .i64 [1, 2]) := (shows_new (cs := natC .i64 [1, 2]) e7 rfl).old (old_of_alloc e12)
    have S12 : Shows G12 (some ⟨g7.next, 0, none⟩) 2 1 (natC .u64 [o.kind.toNat, nB o.n]) := shows_new e12 rfl
    refine (fieldPut kk.put kk.room S7 S12 (by decide) (by decide) rfl (fun j w x h1 h2 => ?_)).mono ?_
    · match j, h1, h2 with
      | 0, h1, h2 => cases h1; cases h2; simpa using ak2
      | 1, h1, h2 => cases h1; cases h2; simpa using an
      | j + 2, h1, h2 => simp at h1
    rintro _ g14 ⟨⟨b15, rfl, q15, S15⟩, o14⟩
    have oh14 := o12.trans o14
    have T15 : TextN h.next g14 (some ⟨b15, 0, none⟩) 3 3 (headB o) := by
      refine join_text (by rw [headB_len]) (by rw [headB_len]; decide) (by have := o12.1; omega) ?_ S15 (fun x hx => enc_lt _ _ hx) rfl
      rcases S15.2 with z | ⟨b5, off5, al, e5, ro, hp5, hb5, -⟩
      · simp at z
      · cases hp5; exact hb5
    refine ⟨_, _, _, _, rfl, fun _ => derefP_at ⟨_, _, _, m oh14 5 _ l5, ⟨by omega, by omega, by omega, by omega⟩, fun g24 e24 => ?_⟩, fun y => absurd rfl y⟩
    have o24 := old_of_alloc e24
    have n24 := next_of_alloc e24
    have oh24 := oh14.trans o24
    have hkl : (keepB o.keep).length = nk := by rw [keepB_len]; omega
    rw [Int.toNat_natCast] at *
    have c24 : g24.get g14.next = some (.cells (natC .u8 (List.replicate nk 0)) 5 false) := by
      rw [get_of_alloc e24]
      congr 2
      simp [natC, List.flatten_replicate_singleton]
    refine derefP_at ⟨_, _, _, m oh24 5 _ l5, fun i34 k g => ∃ j : Nat, i34 = j ∧ j ≤ nk ∧ nk - j = k ∧ Near g14.next g24 g ∧ g.get g14.next = some (.cells (natC .u8 ((keepB o.keep).take j ++ List.replicate (nk - j) 0)) 5 false), ⟨_, 0, rfl, Nat.zero_le _, rfl, Near.refl _ _, by simpa using c24⟩, ?_⟩
    rintro k31 g32 i34 ⟨j, rfl, hj, rfl, n32, c32⟩
    have oh32 : Old h g32 := oh24.near n32 oh14.1
    refine ⟨fun y => ?_, fun y => ?_⟩
    · have hj' : j < nk := by omega
      obtain ⟨bk, offk, rfl, hjk, hlk⟩ := (tk.old oh32).at hj'
      have hka := keepB_at hjk (by omega)
      have fs := fill_set (z := 0) hkl hj'
      refine derefP_at ⟨by omega, y, orB (by rw [Int.toNat_natCast, Nat.mul_one]; exact hlk) (fun hb => ⟨by omega, by omega, ?_⟩) fun hb i39 e39 => ?_⟩
      · have sl : 0 + j * 1 < (natC .u8 ((keepB o.keep).take j ++ List.replicate (nk - j) 0)).length := by rw [natC_len, List.length_append, List.length_take, List.length_replicate]; omega
        refine ⟨_, st1_of c32 (by rw [Int.toNat_natCast]; exact sl), fun i38 e38 => ?_⟩
        have e38 := i64w e38 (by omega) (by omega)
        refine ⟨_, by omega, j + 1, by rw [e38]; rfl, hj', rfl, n32.trans (near_set _ _ _), ?_⟩
        rw [get_set_self, Int.toNat_natCast, Nat.zero_add, Nat.mul_one]
        rw [hb, if_pos rfl] at hka
        rw [hka] at fs
        rw [← fs, ← natC_set]
        rfl
      · have e39 := i64w e39 (by omega) (by omega)
        refine ⟨_, by omega, j + 1, by rw [e39]; rfl, hj', rfl, n32, ?_⟩
        rw [hb, if_neg (by decide)] at hka
        rw [hka] at fs
        rw [← fs, c32]
        congr 3
        refine (List.ext_getElem? fun u => ?_)
        rw [List.getElem?_set]
        split
        · rename_i hu
          subst hu
          rw [if_pos (by rw [List.length_append, List.length_take, List.length_replicate]; omega), List.getElem?_append_right (by rw [List.length_take]; omega), List.getElem?_replicate, if_pos (by rw [List.length_take]; omega)]
        · rfl
    · obtain rfl : j = nk := by omega
      rw [List.take_of_length_le (by omega), Nat.sub_self, List.replicate_zero, List.append_nil] at c32
      refine derefP_at ⟨_, m oh32 1 _ l1, _, _, _, _, convBs s1, derefP_at ⟨_, m (oh32.trans (Old_alloc _ _)) 2 _ l2, _, _, _, _, convBs s2, derefP_at ⟨_, _, _, m ((oh32.trans (Old_alloc _ _)).trans (Old_alloc _ _)) 4 _ l4, fun g59 e59 => ?_⟩⟩⟩
      generalize e46 : g32.alloc _ = g46 at *
      generalize e53 : g46.alloc _ = g53 at *
      have o46 := old_of_alloc e46.symm
      have o53 := old_of_alloc e53.symm
      have o59 := old_of_alloc e59
      have oh53 := (oh32.trans o46).trans o53
      have K32 : Text g32 (some ⟨g14.next, 0, none⟩) j (keepB o.keep) := ⟨.inr ⟨_, _, rfl⟩, hkl.symm, by omega, ⟨by rw [natC_len]; omega, .inr ⟨_, 0, _, _, _, rfl, by rw [n32.1]; omega, c32, by rw [natC_len]; omega, by rw [List.drop_zero, Nat.mul_one]; exact List.take_of_length_le (by rw [natC_len]; omega)⟩⟩, fun x hx => by have := keepB_le hx; omega⟩
      have N46 := text_new (c := openCap) e46.symm (by rw [strB_len]; exact s1) (fun x hx => strB_lt hx) (.inl rfl)
      have N53 := text_new (c := openCap) e53.symm (by rw [strB_len]; exact s2) (fun x hx => strB_lt hx) (.inl rfl)
      rw [strB_len] at N46 N53
      have o14_32 : Old g14 g32 := o24.near n32 (Nat.le_refl _)
      have R59 := rows_new e59 (ts := opTs o) rfl (five_rows ((T15.1.old o14_32).old (o46.trans o53)) (N46.1.old o53) N53.1 (td.old oh53) (K32.old (o46.trans o53)))
      have hol := opB_len hA.ok
      refine (joinSpec kk.join R59 (by simp [opTs]) (fun t ht => by have := opTs_lt hA.ok t ht; omega)).mono ?_
      rintro _ g61 ⟨⟨b62, rfl, q1, q2, q3⟩, o61⟩
      have oh61 := (oh53.trans o59).trans o61
      exact ⟨_, _, _, _, rfl, ⟨_, _, rfl, join_text rfl (by show (opB o).length ≤ _; omega) (by have := oh53.1; have := o59.1; omega) q2 q3 (opB_lt hD) (joinB_size _).symm⟩, oh61⟩
  · have e11 := u64w e11 (by omega) (by omega)
    have e12 : g12 = g7.alloc (.cells (natC .u64 [o.kind.toNat, nB o.n]) 46 false) := by
      rw [e12, e11]
      simp only [natC, List.map_cons, List.map_nil, ← ak]
      rw [show ((nB o.n : Nat) : Int) = 65535 by unfold nB; rw [if_pos (by omega)]; rfl]
    clear e11
    generalize g12 = G12 at *
    have o7 := old_of_alloc e7
    have o12 := o7.trans (old_of_alloc e12)
    have n7 := next_of_alloc e7
    have n12 := next_of_alloc e12
    have S7 : Shows G12 (some ⟨h.next, 0, none⟩) 2 1 (natC .i64 [1, 2]) := (shows_new (cs := natC .i64 [1, 2]) e7 rfl).old (old_of_alloc e12)
    have S12 : Shows G12 (some ⟨g7.next, 0, none⟩) 2 1 (natC .u64 [o.kind.toNat, nB o.n]) := shows_new e12 rfl
    refine (fieldPut kk.put kk.room S7 S12 (by decide) (by decide) rfl (fun j w x h1 h2 => ?_)).mono ?_
    · match j, h1, h2 with
      | 0, h1, h2 => cases h1; cases h2; simpa using ak2
      | 1, h1, h2 => cases h1; cases h2; simpa using an
      | j + 2, h1, h2 => simp at h1
    rintro _ g14 ⟨⟨b15, rfl, q15, S15⟩, o14⟩
    have oh14 := o12.trans o14
    have T15 : TextN h.next g14 (some ⟨b15, 0, none⟩) 3 3 (headB o) := by
      refine join_text (by rw [headB_len]) (by rw [headB_len]; decide) (by have := o12.1; omega) ?_ S15 (fun x hx => enc_lt _ _ hx) rfl
      rcases S15.2 with z | ⟨b5, off5, al, e5, ro, hp5, hb5, -⟩
      · simp at z
      · cases hp5; exact hb5
    refine ⟨_, _, _, _, rfl, fun _ => derefP_at ⟨_, _, _, m oh14 5 _ l5, ⟨by omega, by omega, by omega, by omega⟩, fun g24 e24 => ?_⟩, fun y => absurd rfl y⟩
    have o24 := old_of_alloc e24
    have n24 := next_of_alloc e24
    have oh24 := oh14.trans o24
    have hkl : (keepB o.keep).length = nk := by rw [keepB_len]; omega
    rw [Int.toNat_natCast] at *
    have c24 : g24.get g14.next = some (.cells (natC .u8 (List.replicate nk 0)) 5 false) := by
      rw [get_of_alloc e24]
      congr 2
      simp [natC, List.flatten_replicate_singleton]
    refine derefP_at ⟨_, _, _, m oh24 5 _ l5, fun i34 k g => ∃ j : Nat, i34 = j ∧ j ≤ nk ∧ nk - j = k ∧ Near g14.next g24 g ∧ g.get g14.next = some (.cells (natC .u8 ((keepB o.keep).take j ++ List.replicate (nk - j) 0)) 5 false), ⟨_, 0, rfl, Nat.zero_le _, rfl, Near.refl _ _, by simpa using c24⟩, ?_⟩
    rintro k31 g32 i34 ⟨j, rfl, hj, rfl, n32, c32⟩
    have oh32 : Old h g32 := oh24.near n32 oh14.1
    refine ⟨fun y => ?_, fun y => ?_⟩
    · have hj' : j < nk := by omega
      obtain ⟨bk, offk, rfl, hjk, hlk⟩ := (tk.old oh32).at hj'
      have hka := keepB_at hjk (by omega)
      have fs := fill_set (z := 0) hkl hj'
      refine derefP_at ⟨by omega, y, orB (by rw [Int.toNat_natCast, Nat.mul_one]; exact hlk) (fun hb => ⟨by omega, by omega, ?_⟩) fun hb i39 e39 => ?_⟩
      · have sl : 0 + j * 1 < (natC .u8 ((keepB o.keep).take j ++ List.replicate (nk - j) 0)).length := by rw [natC_len, List.length_append, List.length_take, List.length_replicate]; omega
        refine ⟨_, st1_of c32 (by rw [Int.toNat_natCast]; exact sl), fun i38 e38 => ?_⟩
        have e38 := i64w e38 (by omega) (by omega)
        refine ⟨_, by omega, j + 1, by rw [e38]; rfl, hj', rfl, n32.trans (near_set _ _ _), ?_⟩
        rw [get_set_self, Int.toNat_natCast, Nat.zero_add, Nat.mul_one]
        rw [hb, if_pos rfl] at hka
        rw [hka] at fs
        rw [← fs, ← natC_set]
        rfl
      · have e39 := i64w e39 (by omega) (by omega)
        refine ⟨_, by omega, j + 1, by rw [e39]; rfl, hj', rfl, n32, ?_⟩
        rw [hb, if_neg (by decide)] at hka
        rw [hka] at fs
        rw [← fs, c32]
        congr 3
        refine (List.ext_getElem? fun u => ?_)
        rw [List.getElem?_set]
        split
        · rename_i hu
          subst hu
          rw [if_pos (by rw [List.length_append, List.length_take, List.length_replicate]; omega), List.getElem?_append_right (by rw [List.length_take]; omega), List.getElem?_replicate, if_pos (by rw [List.length_take]; omega)]
        · rfl
    · obtain rfl : j = nk := by omega
      rw [List.take_of_length_le (by omega), Nat.sub_self, List.replicate_zero, List.append_nil] at c32
      refine derefP_at ⟨_, m oh32 1 _ l1, _, _, _, _, convBs s1, derefP_at ⟨_, m (oh32.trans (Old_alloc _ _)) 2 _ l2, _, _, _, _, convBs s2, derefP_at ⟨_, _, _, m ((oh32.trans (Old_alloc _ _)).trans (Old_alloc _ _)) 4 _ l4, fun g59 e59 => ?_⟩⟩⟩
      generalize e46 : g32.alloc _ = g46 at *
      generalize e53 : g46.alloc _ = g53 at *
      have o46 := old_of_alloc e46.symm
      have o53 := old_of_alloc e53.symm
      have o59 := old_of_alloc e59
      have oh53 := (oh32.trans o46).trans o53
      have K32 : Text g32 (some ⟨g14.next, 0, none⟩) j (keepB o.keep) := ⟨.inr ⟨_, _, rfl⟩, hkl.symm, by omega, ⟨by rw [natC_len]; omega, .inr ⟨_, 0, _, _, _, rfl, by rw [n32.1]; omega, c32, by rw [natC_len]; omega, by rw [List.drop_zero, Nat.mul_one]; exact List.take_of_length_le (by rw [natC_len]; omega)⟩⟩, fun x hx => by have := keepB_le hx; omega⟩
      have N46 := text_new (c := openCap) e46.symm (by rw [strB_len]; exact s1) (fun x hx => strB_lt hx) (.inl rfl)
      have N53 := text_new (c := openCap) e53.symm (by rw [strB_len]; exact s2) (fun x hx => strB_lt hx) (.inl rfl)
      rw [strB_len] at N46 N53
      have o14_32 : Old g14 g32 := o24.near n32 (Nat.le_refl _)
      have R59 := rows_new e59 (ts := opTs o) rfl (five_rows ((T15.1.old o14_32).old (o46.trans o53)) (N46.1.old o53) N53.1 (td.old oh53) (K32.old (o46.trans o53)))
      have hol := opB_len hA.ok
      refine (joinSpec kk.join R59 (by simp [opTs]) (fun t ht => by have := opTs_lt hA.ok t ht; omega)).mono ?_
      rintro _ g61 ⟨⟨b62, rfl, q1, q2, q3⟩, o61⟩
      have oh61 := (oh53.trans o59).trans o61
      exact ⟨_, _, _, _, rfl, ⟨_, _, rfl, join_text rfl (by show (opB o).length ≤ _; omega) (by have := oh53.1; have := o59.1; omega) q2 q3 (opB_lt hD) (joinB_size _).symm⟩, oh61⟩
theorem take_map_succ {os : List OpP} {j : Nat} (hj : j < os.length) : (os.take (j + 1)).map opB = (os.take j).map opB ++ [opB os[j]] := by
  rw [List.take_succ_eq_append_getElem hj, List.map_append]
  rfl
theorem bytesSpec (kk : KScr K) {s : ScrP} {p : Option Addr} {n c : Nat} (T : Ops h p n s.ops) :
    Wf Tryz.prog K 7 [.agg #[.int .i64 s.secs, .slice p n c]] h fun v h' => BytesQ h.next s v h' ∧ Old h h' := by
  have hn := T.2.1
  have hr := T.2.2.1
  have hre : reachBytes = 140737488351232 := rfl
  refine vc_script_Bytes kk.bytes _ _ _ _ h _ fun g0 e0 => ?_
  have n0 := next_of_alloc e0
  have o0 := old_of_alloc e0
  refine ⟨_, _, _, _, ldN_all (get_of_alloc e0) rfl, (scrRight kk.right kk.opR kk.parts (c := c) (T.old o0)).mono ?_⟩
  rintro _ g6 ⟨⟨rfl, k⟩ | ⟨rfl, k⟩, o6⟩
  rotate_left
  · exact .inr ⟨rfl, .inr ⟨k, rfl⟩, o0.trans o6⟩
  have oh6 := o0.trans o6
  have k1 := k.lo
  have k2 := k.hi
  have k3 := k.len
  refine .inl ⟨rfl, fun g7 e7 => ?_⟩
  have o7 := oh6.trans (old_of_alloc e7)
  have n7 := next_of_alloc e7
  have c6 : ∀ {g : AH}, Old g6 g → g.get h.next = some (.cells [.int .i64 s.secs, .slice p n c] 24 false) := fun o => ((o6.trans o).2 _ (by omega)).trans (get_of_alloc e0)
  refine ⟨_, ld1_at (c6 (old_of_alloc e7)) rfl, fun i9 e9 g10 e10 => ?_⟩
  have e9 := u64w e9 (by omega) (by omega)
  have e10 : g10 = g7.alloc (.cells (natC .u64 [s.secs.toNat]) 46 false) := by
    rw [e10, e9]
    simp only [natC, List.map_cons, List.map_nil]
    rw [show ((s.secs.toNat : Nat) : Int) = s.secs by omega]
  have n10 := next_of_alloc e10
  have S7 : Shows g10 (some ⟨g6.next, 0, none⟩) 1 1 (natC .i64 [2]) := (shows_new (cs := natC .i64 [2]) e7 rfl).old (old_of_alloc e10)
  have S10 : Shows g10 (some ⟨g7.next, 0, none⟩) 1 1 (natC .u64 [s.secs.toNat]) := shows_new e10 rfl
  refine (fieldPut kk.put kk.room S7 S10 (by decide) (by decide) rfl (fun j w x h1 h2 => ?_)).mono ?_
  · match j, h1, h2 with
    | 0, h1, h2 => cases h1; cases h2; show s.secs.toNat < 65536; omega
    | j + 1, h1, h2 => simp at h1
  rintro _ g12 ⟨⟨b13, rfl, q13, S13⟩, o12⟩
  have hen : enc [2] [s.secs.toNat] = byB 2 s.secs.toNat := by simp [enc]
  rw [hen] at S13
  have o10 := (old_of_alloc e7).trans (old_of_alloc e10)
  have o612 := o10.trans o12
  have oh12 := oh6.trans o612
  have T13 : TextN g6.next g12 (some ⟨b13, 0, none⟩) 2 2 (byB 2 s.secs.toNat) := by
    refine join_text (by rw [byB_len]) (by rw [byB_len]; decide) (by omega) ?_ S13 (fun x hx => byB_lt hx) rfl
    rcases S13.2 with z | ⟨b5, off5, al, e5, ro, hp5, hb5, -⟩
    · simp at z
    · cases hp5; exact hb5
  refine ⟨_, _, _, _, rfl, fun _ g17 e17 => ?_, fun y => absurd rfl y⟩
  have o17 := oh12.trans (old_of_alloc e17)
  have o617 := o612.trans (old_of_alloc e17)
  refine ⟨_, _, _, ld1_at (c6 o617) rfl, fun p25 n26 c27 i28 k g => ∃ j : Nat, i28 = j ∧ j ≤ n ∧ n - j = k ∧ RowsG g6.next g p25 n26 c27 (byB 2 s.secs.toNat :: (s.ops.take j).map opB) ∧ Old g6 g, ⟨_, 0, rfl, Nat.zero_le _, rfl, RowsG.one e17 o612.1 T13, o617⟩, ?_⟩
  rintro k22 g23 p25 n26 c27 i28 ⟨j, rfl, hj, rfl, RG, o23⟩
  have oh23 := oh6.trans o23
  refine ⟨fun z => ?_, fun z => ?_⟩
  · have hjn : j < n := by omega
    have hjl : j < s.ops.length := by omega
    obtain ⟨b, off, rfl, -⟩ := T.at hjn
    refine ⟨_, _, _, ld1_at (c6 o23) rfl, derefP_at ⟨by omega, by omega, (opBytesSpec kk (T.old oh23) rfl hjn hjl (k.ops _ (List.getElem_mem hjl)).a).mono ?_⟩⟩
    rintro _ g35 ⟨⟨p36, c38, rfl, T36⟩, o35⟩
    refine ⟨_, _, _, _, rfl, fun _ g40 e40 => ?_, fun y => absurd rfl y⟩
    have RG35 := RG.old o35
    have hap : ∀ a, p36 = some a → g6.next ≤ a.block ∧ a.block < g35.next ∧ apart p25 a.block := fun a ha => by
      obtain ⟨q1, q2⟩ := T36.2.2 a ha
      refine ⟨by have := o23.1; omega, q2, ?_⟩
      obtain ⟨-, cells, G, -⟩ := RG
      rcases G.2 with ⟨rfl, -⟩ | ⟨b, rfl, q3, q4, -⟩
      · exact trivial
      · show b ≠ a.block; omega
    obtain ⟨p41, c43, g44, k44, RG44, o44, f44⟩ := RG35.push (by have := o23.1; have := o35.1; omega) T36.1 T36.2.1 hap e40 (by simp; omega)
    refine ⟨p41, _, c43, g44, k44, fun i45 e45 => ?_⟩
    have e45 := i64w e45 (by omega) (by omega)
    refine ⟨_, by omega, j + 1, by rw [e45]; rfl, hjn, rfl, by rw [take_map_succ hjl]; exact RG44, ⟨?_, fun b hb => ?_⟩⟩
    · have := o23.1; have := o35.1; have := o44.1; omega
    · rw [o44.2 b hb, o35.2 b (by have := o23.1; omega), o23.2 b hb]
  · obtain rfl : j = n := by omega
    rw [List.take_of_length_le (by omega)] at RG
    refine (joinSpec kk.join (ts := scrTs s) RG.rows (by simp [scrTs]; omega) (fun t ht => by have := scrTs_lt k t ht; omega)).mono ?_
    rintro _ g47 ⟨⟨b48, rfl, q1, q2, q3⟩, o47⟩
    have hol := scrB_len k
    exact ⟨_, _, _, _, rfl, fun _ => ⟨.inl ⟨k, _, _, rfl, join_text rfl (by show (scrB s).length ≤ _; omega) (by have := oh23.1; omega) q2 q3 (scrB_lt T.bytes) (joinB_size _).symm⟩, oh23.trans o47⟩, fun y => absurd rfl y⟩
end
end Go.Am
