/-
  A WALK over a device that was made: what audit.Walk answers, in whatever order the range over its map comes.
-/
import Derived.Test.YtnapccecmcdnjacGreatCSort
import Derived.Test.YtnapccecmcdnjacGreatVWalk
import Derived.Test.YtnapccecmcdnjacGreatAmH
set_option linter.unusedVariables false
set_option linter.unusedSimpArgs false
set_option maxRecDepth 100000
namespace Go.Am
open Go.Proofs
structure KWalk (K : Xs) : Prop where
  sort : KSort K
  of : K 17 = some (.sum (xOf 70))
/-! ## Few numbers are sorted -/
section
variable {K : Xs} {h : AH}
theorem pdqFew (kk : KSort K) {p : Option Addr} {n c : Nat} {lim : Int} (hn : n ≤ 12) {Q : Value → AH → Prop} (w : Wf Tryz.prog K 62 [.slice p n c, .int .i64 0, .int .i64 n] h fun _ h' => Q (.tuple #[]) h') :
    Wf Tryz.prog K 32 [.slice p n c, .int .i64 0, .int .i64 n, .int .i64 lim] h Q := by
  refine (Wf_enter kk.pdq Tryz.func32 rfl).2 ?_
  refine Wc_seq.2 ((vc_sound (hs := []) (a := Tr.ofList [.slice p n c, .int .i64 0, .int .i64 n, .int .i64 lim]) (Q := fun x a' h' => x = .normal ∧ (a'.get 0 = some (.slice p n c) ∧ a'.get 1 = some (.int .i64 0) ∧ a'.get 2 = some (.int .i64 n)) ∧ h' = h) (fun _ _ q => q)
    (Eq.mpr (by kernel_rfl) (⟨rfl, ⟨rfl, rfl, rfl⟩, rfl⟩ : AX.normal = AX.normal ∧ (some (Value.slice p n c) = some (.slice p n c) ∧ some (Value.int .i64 0) = some (.int .i64 0) ∧ some (Value.int .i64 n) = some (.int .i64 n)) ∧ h = h))).mono ?_)
  rintro x e1 h1 ⟨a1, ha1, rfl, ⟨g0, g1, g2⟩, rfl⟩
  have b1 : agr (((Tr.nil.set 0 (.slice p n c)).set 1 (.int .i64 0)).set 2 (.int .i64 n)) e1 := agr_set_of (agr_set_of (agr_set_of (fun t v z => by rw [Tr.get_nil] at z; cases z) (ha1 _ _ g0)) (ha1 _ _ g1)) (ha1 _ _ g2)
  refine Wc_seq.2 ((vc_sound (hs := []) (Q := fun x a' h' => x = .normal ∧ (a'.get 0 = some (.slice p n c) ∧ a'.get 1 = some (.int .i64 0) ∧ a'.get 2 = some (.int .i64 n)) ∧ h' = h1) b1
    (Eq.mpr (by kernel_rfl) (⟨rfl, ⟨rfl, rfl, rfl⟩, rfl⟩ : AX.normal = AX.normal ∧ (some (Value.slice p n c) = some (.slice p n c) ∧ some (Value.int .i64 0) = some (.int .i64 0) ∧ some (Value.int .i64 n) = some (.int .i64 n)) ∧ h1 = h1))).mono ?_)
  rintro x e2 h2 ⟨a2, ha2, rfl, ⟨g0, g1, g2⟩, rfl⟩
  have b2 : agr (((Tr.nil.set 0 (.slice p n c)).set 1 (.int .i64 0)).set 2 (.int .i64 n)) e2 := agr_set_of (agr_set_of (agr_set_of (fun t v z => by rw [Tr.get_nil] at z; cases z) (ha2 _ _ g0)) (ha2 _ _ g1)) (ha2 _ _ g2)
  refine Wc_block.2 (Wc_loop.2 (Wc_block.2 (Wc_seq.2 ((vc_sound (hs := []) (Q := fun x a' h' => x = .normal ∧ (a'.get 0 = some (.slice p n c) ∧ a'.get 1 = some (.int .i64 0) ∧ a'.get 2 = some (.int .i64 n) ∧ ∃ j : Int, j ≤ 12 ∧ a'.get 10 = some (.int .i64 j)) ∧ h' = h2) b2
    (Eq.mpr (by kernel_rfl) (fun i e => ⟨rfl, ⟨rfl, rfl, rfl, i, by rw [e, wrap_i64 (by omega) (by omega)]; omega, rfl⟩, rfl⟩ : ∀ i : Int, i = IntKind.wrap .i64 ((n : Int) - 0) → AX.normal = AX.normal ∧ (some (Value.slice p n c) = some (.slice p n c) ∧ some (Value.int .i64 0) = some (.int .i64 0) ∧ some (Value.int .i64 n) = some (.int .i64 n) ∧ ∃ j : Int, j ≤ 12 ∧ some (Value.int .i64 i) = some (.int .i64 j)) ∧ h2 = h2))).mono ?_))))
  rintro x e3 h3 ⟨a3, ha3, rfl, ⟨g0, g1, g2, j, hj, g10⟩, rfl⟩
  refine Wc_seq.2 ((vp_slices_pdqsortOrdered_int__3 (K := K) (by kernel_rfl) j p n c 0 n (agr_set_of (agr_set_of (agr_set_of (agr_set_of (fun t v z => by rw [Tr.get_nil] at z; cases z) (ha3 _ _ g10)) (ha3 _ _ g0)) (ha3 _ _ g1)) (ha3 _ _ g2)) h3 (fun x h' => x = .ret ∧ Q (.tuple #[]) h') ⟨fun _ => w.mono fun r h' q => ⟨rfl, q⟩, fun z => absurd hj z⟩).mono ?_)
  rintro x e4 h4 ⟨rfl, q⟩
  exact ⟨.inr rfl, _, rfl, q⟩
theorem sort5 (kk : KSort K) {b c : Nat} {l : List Nat} (hl : l.length = 5) (hg : h.get b = some (.cells (natC .i64 l) 3 false)) (hb : ∀ x ∈ l, x < 1000000) {Q : Value → AH → Prop}
    (hq : ∀ h', Near b h h' → h'.get b = some (.cells (natC .i64 (srtF 4 l 1)) 3 false) → Q (.tuple #[]) h') : Wf Tryz.prog K 16 [.slice (some ⟨b, 0, none⟩) 5 c] h Q := by
  refine vc_slices_Sort___int_int_ kk.sort _ _ _ h _ fun i e => ?_
  obtain rfl : i = 5 := e.trans (by decide)
  refine (len5 kk).mono ?_
  rintro _ _ ⟨rfl, rfl⟩
  refine ⟨_, rfl, pdqFew kk (by decide) ((insSort kk (b := b) (n := 5) (c := c) hl (by decide) hg hb).mono ?_)⟩
  rintro _ h' ⟨-, nr, w⟩
  exact hq h' nr w
end
/-! ## The slice that grows -/
def OwnS (lim : Nat) (h : AH) (elem : TypeId) (p : Option Addr) (n c : Nat) (cs : List Value) : Prop :=
  cs.length = n ∧ ((p = none ∧ n = 0 ∧ c = 0) ∨ ∃ b, p = some ⟨b, 0, none⟩ ∧ lim ≤ b ∧ b < h.next ∧ h.get b = some (.cells cs elem false) ∧ c = openCap)
theorem OwnS.push {P : Program} {lim : Nat} {h h4 : AH} {st elem : TypeId} {p : Option Addr} {n c : Nat} {cs : List Value} {v : Value} (g : OwnS lim h elem p n c cs) (E : ElemOk P st elem 1 8) (hlim : lim ≤ h.next) (e4 : h4 = h.alloc (.cells [v] elem false)) (hn : n ≤ 1000) :
    ∃ b' h', aBuiltin P h4 .append #[st, st] [.slice p n c, .slice (some ⟨h.next, 0, none⟩) 1 1] = some (.slice (some ⟨b', 0, none⟩) (n + 1) openCap, h') ∧ OwnS lim h' elem (some ⟨b', 0, none⟩) (n + 1) openCap (cs ++ [v]) ∧ h'.next = h.next + 2 ∧ (∀ b, b < h.next → apart p b → h'.get b = h.get b) := by
  obtain ⟨hu, i, z, hi, hz, hzs, hpos, hsz, hby⟩ := E
  have hg4 := get_of_alloc e4
  have hn4 := next_of_alloc e4
  have ho4 := old_of_alloc e4
  have hf : firstC h4 i.size 1 (.slice (some ⟨h.next, 0, none⟩) 1 1) = some [v] := by
    rw [hsz]
    unfold firstC
    simp only [hg4]
    rfl
  rw [aBuiltin_append hu]
  obtain ⟨hl, hc⟩ := g
  have hfc : firstC h4 i.size n (.slice p n c) = some cs := by
    rw [hsz]
    rcases hc with ⟨rfl, rfl, rfl⟩ | ⟨b, rfl, -, hb, hg, -⟩
    · rw [List.length_eq_zero_iff.1 hl]; rfl
    · unfold firstC
      rw [Nat.mul_one]
      cases n with
      | zero => rw [List.length_eq_zero_iff.1 hl]
      | succ n =>
        simp only [(ho4.2 b hb).trans hg]
        rw [if_pos ⟨Nat.le_refl _, by omega⟩, List.drop_zero, ← hl, List.take_length]
  unfold aAppend
  simp only [hu, hi, show lenV (.slice (some ⟨h.next, 0, none⟩) 1 1) = some 1 from rfl, hfc, hf, hz]
  rw [if_pos ⟨hzs, hpos, by rw [hsz]; rfl, by rw [hsz, hl]; omega⟩]
  have hroom : (n + 1) * i.bytes ≤ roomMax := by rw [hby]; show _ ≤ 140737488355328; omega
  rcases hc with ⟨rfl, rfl, rfl⟩ | ⟨b, rfl, h1, h2, h3, rfl⟩
  · rw [if_neg (by decide), if_neg (by decide), if_pos ⟨Nat.le_refl _, hroom, by decide⟩]
    refine ⟨_, _, rfl, ⟨by simp [hl], .inr ⟨_, rfl, by omega, by simp, ?_, rfl⟩⟩, by simp [hn4], fun b hb _ => ?_⟩
    · rw [AH.get_alloc, if_pos rfl]
    · rw [AH.get_alloc, if_neg (by omega)]
      exact ho4.2 b hb
  · rw [if_pos rfl]
    simp only [(ho4.2 b h2).trans h3]
    rw [if_pos ⟨trivial, hroom, by omega⟩]
    refine ⟨_, _, rfl, ⟨by simp [hl], .inr ⟨_, rfl, by omega, by simp, ?_, rfl⟩⟩, by simp [hn4], fun d hd ha => ?_⟩
    · rw [AH.get_alloc, if_pos (by simp)]
    · rw [AH.get_alloc, if_neg (by simp; omega), AH.get_del, if_neg (fun q => ha (by rw [q]))]
      exact ho4.2 d hd
/-! ## The map of this walk, and the loop over it -/
def kf (i : Nat) : Nat := [8, 4, 7, 5, 6].getD i 0
def sf (i : Nat) : Nat := [242181136, 383163474, 1037287850, 3194414625, 136799451].getD i 0
def cellsA (i : Nat) : List Value := [.int .i64 (kf i : Nat), .int .u64 1, .int .u32 (sf i : Nat), .bool true]
def entA (i : Nat) : MapEntry := ⟨.int .i64 (kf i : Nat), .agg (cellsA i).toArray, i⟩
def es0 : List MapEntry := [entA 0, entA 1, entA 2, entA 3, entA 4]
theorem es0_at {y : MapEntry} (hy : y ∈ es0) : ∃ i, i < 5 ∧ y = entA i := by
  simp only [es0, List.mem_cons, List.not_mem_nil, or_false] at hy
  rcases hy with h | h | h | h | h
  · exact ⟨0, by decide, h⟩
  · exact ⟨1, by decide, h⟩
  · exact ⟨2, by decide, h⟩
  · exact ⟨3, by decide, h⟩
  · exact ⟨4, by decide, h⟩
theorem ent_es0 {i : Nat} (h : i < 5) : entA i ∈ es0 := by
  simp only [es0, List.mem_cons, List.not_mem_nil, or_false]
  have : i = 0 ∨ i = 1 ∨ i = 2 ∨ i = 3 ∨ i = 4 := by omega
  rcases this with rfl | rfl | rfl | rfl | rfl <;> simp
theorem es0_nd : (es0.map (·.born)).Nodup := by decide
theorem es0_lt : ∀ x ∈ es0, x.born < 5 := fun x hx => by
  obtain ⟨i, hi, rfl⟩ := es0_at hx
  exact hi
theorem lenN : ∀ {l1 l2 : List Nat}, l1.Nodup → (∀ x ∈ l1, x ∈ l2) → l1.length ≤ l2.length
  | [], l2, _, _ => Nat.zero_le _
  | a :: t, l2, hn, hs => by
    rw [List.nodup_cons] at hn
    have ha : a ∈ l2 := hs a (List.mem_cons_self ..)
    have := lenN (l2 := l2.erase a) hn.2 fun x hx => (List.mem_erase_of_ne (fun (e : x = a) => hn.1 (by rw [← e]; exact hx))).2 (hs x (List.mem_cons_of_mem _ hx))
    rw [List.length_erase_of_mem ha] at this
    have := List.length_pos_of_mem ha
    simp only [List.length_cons]
    omega
theorem kf_lt {i : Nat} (h : i < 5) : kf i < 1000000 := by
  have : i = 0 ∨ i = 1 ∨ i = 2 ∨ i = 3 ∨ i = 4 := by omega
  rcases this with rfl | rfl | rfl | rfl | rfl <;> decide
theorem sorted5 : ∀ a b c d e : Fin 5, [a, b, c, d, e].Nodup → srtF 4 (([a, b, c, d, e] : List (Fin 5)).map fun x => kf x.val) 1 = [4, 5, 6, 7, 8] := by decide +kernel
theorem sortedL {l : List Nat} (hl : l.length = 5) (hn : l.Nodup) (h5 : ∀ x ∈ l, x < 5) : srtF 4 (l.map kf) 1 = [4, 5, 6, 7, 8] := by
  obtain ⟨a, b, c, d, e, rfl⟩ : ∃ a b c d e, l = [a, b, c, d, e] := by
    match l, hl with
    | [a, b, c, d, e], _ => exact ⟨a, b, c, d, e, rfl⟩
  refine sorted5 ⟨a, h5 a (by simp)⟩ ⟨b, h5 b (by simp)⟩ ⟨c, h5 c (by simp)⟩ ⟨d, h5 d (by simp)⟩ ⟨e, h5 e (by simp)⟩ ?_
  simpa [List.nodup_cons] using hn
theorem eIntW : ElemOk Tryz.prog 57 3 1 8 := ElemOk_of (by kernel_rfl)
noncomputable def walkRest : Code := match Tryz.f4.body with | some c => (splitC 12 c).2 | none => .skip
noncomputable def walkLoopC : Code := match walkRest with | .seq (.seq _ (.block _ (.loop c))) _ => c | _ => .skip
abbrev wA (sv : Value) : Env := (((Tr.nil.set 100 (ptr 1305 0)).set 16 sv).set 11 (.pointer (some ⟨1293, 0, none⟩))).set 2 (.pointer (some ⟨843, 0, none⟩))
abbrev kEntW (sv : Value) (i : Nat) (h2 : AH) (a1 : Env) (g : AH) : Prop := agr (((wA sv).set 18 (.pointer (some ⟨h2.next, 0, none⟩))).set 17 (.int .i64 (kf i : Nat))) a1 ∧ g.next = h2.next + 1 ∧ g.get h2.next = some (.cells (cellsA i) 59 false) ∧ ∀ c, c < h2.next → g.get c = h2.get c
theorem agr_nil {e : Env} : agr Tr.nil e := fun t v z => by rw [Tr.get_nil] at z; cases z
theorem agr_wA {e : Env} {sv : Value} (h1 : e.get 100 = some (ptr 1305 0)) (h2 : e.get 16 = some sv) (h3 : e.get 11 = some (.pointer (some ⟨1293, 0, none⟩))) (h4 : e.get 2 = some (.pointer (some ⟨843, 0, none⟩))) : agr (wA sv) e :=
  agr_set_of (agr_set_of (agr_set_of (agr_set_of agr_nil h1) h2) h3) h4
theorem walkLoop (G : Good Tryz.prog) {B N : Nat} {hb : AH} (hbm : hb.get 1294 = some (.map es0 5)) (hN : 1324 ≤ N) {Q : AX → Env → AH → Fi → World → Prop}
    (hQ : ∀ e h φ w p c l, agr (wA (.slice p 5 c)) e → OwnS 1306 h 3 p 5 c (natC .i64 l) → l.length = 5 → srtF 4 l 1 = [4, 5, 6, 7, 8] → (∀ x ∈ l, x < 1000000) → (∀ b, b < 1305 → h.get b = hb.get b) → h.next = 1321 → Q (.exit 2) e h φ w) :
    ∀ (k : Nat) (seen : Array Nat) (e : Env) (h : AH) (φ : Fi) (w : World) (c0 : Nat) (p : Option Addr) (c : Nat), seen.size + k = 5 → 5 ≤ c0 → h.next = 1306 + 3 * seen.size → seen.toList.Nodup → (∀ x ∈ seen.toList, x < 5) → ItW B φ w 1305 1294 5 seen c0 → agr (wA (.slice p seen.size c)) e → OwnS 1306 h 3 p seen.size c (natC .i64 (seen.toList.map kf)) → (∀ b, b < 1305 → h.get b = hb.get b) → Mc Tryz.prog B N (.loop walkLoopC) e h φ w Q := by
  intro k
  induction k with
  | zero =>
    intro seen e h φ w c0 p c hk hc hn hnd h5 I ha O hold
    have hem : h.get 1294 = some (.map es0 5) := (hold _ (by decide)).trans hbm
    have h100 : e.get 100 = some (ptr 1305 0) := ha 100 _ rfl
    refine Mc.loop1 (Mc.seq ((Mc.next (K := xNone) G xNone_good rfl rfl rfl rfl rfl rfl rfl (by show (e.get 100).getD undef = _; rw [h100]; rfl) hem es0_lt hc I (by omega)).mono ?_))
    rintro x e1 h1 φ1 w1 ⟨rfl, rfl, rfl, ⟨-, rfl⟩ | ⟨y, hy, hys, -⟩⟩
    rotate_left
    · exfalso
      obtain ⟨i, hi, rfl⟩ := es0_at hy
      have hni : i ∉ seen.toList := fun q => by
        have : seen.contains i = true := by rw [Array.contains_iff_mem]; exact Array.mem_toList_iff.1 q
        rw [show (entA i).born = i from rfl, this] at hys; cases hys
      have := lenN (l1 := i :: seen.toList) (l2 := List.range 5) (List.nodup_cons.2 ⟨hni, hnd⟩) (fun x hx => by
        rcases List.mem_cons.1 hx with rfl | hx
        · exact List.mem_range.2 hi
        · exact List.mem_range.2 (h5 x hx))
      simp only [List.length_cons, List.length_range, Array.length_toList] at this
      omega
    intro t1
    have g : ∀ t v, t ≠ 101 → t ≠ 102 → e.get t = some v → ((e.set 101 (.tuple #[.bool false])).set 102 (.bool false)).get t = some v := fun t v q1 q2 q => by rw [Tr.get_set, if_neg q2, Tr.get_set, if_neg q1]; exact q
    refine Mc.seq ((Mc.cond (t := false) (by show (((e.set 101 _).set 102 _).get 102).getD undef = _; rw [Tr.get_set, if_pos rfl]; rfl) (Mc.of (K := xNone) (Q := fun x e' g => x = .exit 2 ∧ agr (wA (.slice p seen.size c)) e' ∧ g = h1) G xNone_good (Wc_exit.2 ⟨rfl, agr_wA (g _ _ (by decide) (by decide) (ha _ _ rfl)) (g _ _ (by decide) (by decide) (ha _ _ rfl)) (g _ _ (by decide) (by decide) (ha _ _ rfl)) (g _ _ (by decide) (by decide) (ha _ _ rfl)), rfl⟩) (fun x e' g q => by rw [q.2.2]; omega))).mono ?_)
    rintro x e2 h2 φ2 w2 ⟨⟨rfl, ha2, rfl⟩, t2⟩
    have hsz : seen.size = 5 := by omega
    rw [hsz] at ha2 O
    exact hQ _ _ _ _ p c (seen.toList.map kf) ha2 O (by simp [hsz]) (sortedL (by simp [hsz]) hnd h5) (fun x hx => by obtain ⟨i, hi, rfl⟩ := List.mem_map.1 hx; exact kf_lt (h5 i hi)) hold (by omega)
  | succ k ih =>
    intro seen e h φ w c0 p c hk hc hn hnd h5 I ha O hold
    have hem : h.get 1294 = some (.map es0 5) := (hold _ (by decide)).trans hbm
    have h100 : e.get 100 = some (ptr 1305 0) := ha 100 _ rfl
    refine Mc.loop1 (Mc.seq ((Mc.next (K := xNone) G xNone_good rfl rfl rfl rfl rfl rfl rfl (by show (e.get 100).getD undef = _; rw [h100]; rfl) hem es0_lt hc I (by omega)).mono ?_))
    rintro x e1 h1 φ1 w1 ⟨rfl, rfl, rfl, ⟨hall, -⟩ | ⟨y, hy, hys, rfl, I1⟩⟩
    · exfalso
      have := lenN (l1 := List.range 5) (l2 := seen.toList) List.nodup_range (fun i hi => by
        have := hall _ (ent_es0 (List.mem_range.1 hi))
        exact Array.mem_toList_iff.2 (Array.contains_iff_mem.1 this))
      simp only [List.length_range, Array.length_toList] at this
      omega
    intro t1
    obtain ⟨i, hi, rfl⟩ := es0_at hy
    have g : ∀ t v, t ≠ 101 → t ≠ 102 → e.get t = some v → ((e.set 101 (.tuple #[.bool true, (entA i).key, (entA i).val])).set 102 (.bool true)).get t = some v := fun t v q1 q2 q => by rw [Tr.get_set, if_neg q2, Tr.get_set, if_neg q1]; exact q
    refine Mc.seq ((Mc.cond (t := true) (by show (((e.set 101 _).set 102 _).get 102).getD undef = _; rw [Tr.get_set, if_pos rfl]; rfl) (Mc.of (K := xNone) (Q := fun x e' g => x = .normal ∧ agr (wA (.slice p seen.size c)) e' ∧ g = h1) G xNone_good (Wc_skip.2 ⟨rfl, agr_wA (g _ _ (by decide) (by decide) (ha _ _ rfl)) (g _ _ (by decide) (by decide) (ha _ _ rfl)) (g _ _ (by decide) (by decide) (ha _ _ rfl)) (g _ _ (by decide) (by decide) (ha _ _ rfl)), rfl⟩) (fun x e' g q => by rw [q.2.2]; omega))).mono ?_)
    rintro x e2 h2 φ2 w2 ⟨⟨rfl, ha2, rfl⟩, t2⟩ t2'
    have I2 := I1.tn t1.rel t2
    refine Mc.block (Mc.seq ((Mc.entryV (K := xNone) G xNone_good (a := wA (.slice p seen.size c)) rfl rfl rfl rfl ha2 rfl hem es0_nd hy I2 (k := kEntW (.slice p seen.size c) i h2) ?_ (fun a1 g q => by rw [q.2.1]; omega)).mono ?_))
    · suffices hq : ∀ h3, h3 = h2.alloc (.cells [.int .i64 0, .int .u64 0, .int .u32 0, .bool false] 59 false) → (cellsA i).length = 4 ∧ ∃ h4, stN h3 h2.next 0 (cellsA i) = some h4 ∧ kEntW (.slice p seen.size c) i h2 ((((((wA (.slice p seen.size c)).set 103 (.tuple #[(entA i).key, (entA i).val])).set 104 (entA i).key).set 105 (entA i).val).set 18 (.pointer (some ⟨h2.next, 0, none⟩))).set 17 (.int .i64 (kf i : Nat))) h4 from Eq.mpr (by kernel_rfl) hq
      refine fun h3 e3 => ⟨rfl, ?_⟩
      obtain ⟨g4, k4, n4, o4, u4⟩ := put_new e3 (vs := cellsA i) rfl
      exact ⟨g4, k4, agr_set_of (agr_set_of (agr_wA rfl rfl rfl rfl) rfl) rfl, n4, (u4 [] (fun c hc => by cases hc)).1, fun c hc => o4.2 c hc⟩
    · rintro x e3 h3 φ3 w3 ⟨rfl, ⟨a1, ha1, q1, q2, q3, q4⟩, I3⟩ t3
      have ha3 : agr (((wA (.slice p seen.size c)).set 18 (.pointer (some ⟨h2.next, 0, none⟩))).set 17 (.int .i64 (kf i : Nat))) e3 := fun t v z => ha1 _ _ (q1 _ _ z)
      have O3 : OwnS 1306 h3 3 p seen.size c (natC .i64 (seen.toList.map kf)) := by
        obtain ⟨o1, o2 | ⟨b, o2, o3, o4, o5, o6⟩⟩ := O
        · exact ⟨o1, .inl o2⟩
        · exact ⟨o1, .inr ⟨b, o2, o3, by omega, (q4 b o4).trans o5, o6⟩⟩
      have happ : ∀ g, g = h3.alloc (.cells [.int .i64 (kf i : Nat)] 3 false) → ∃ (p1 : Option Addr) (n2 c3 : Nat) (g4 : AH), aBuiltin Tryz.prog g .append #[57, 57] [.slice p seen.size c, .slice (some ⟨h3.next, 0, none⟩) 1 1] = some (.slice p1 n2 c3, g4) ∧ n2 = seen.size + 1 ∧ OwnS 1306 g4 3 p1 n2 c3 (natC .i64 ((seen.push i).toList.map kf)) ∧ g4.next = h3.next + 2 ∧ ld1 g4 h2.next 3 = some (.bool true) ∧ ∀ b, b < 1305 → g4.get b = h3.get b := by
        intro g eg
        obtain ⟨b', h', k1, k2, k3, k4⟩ := O3.push eIntW (by omega) eg (by omega)
        refine ⟨_, _, _, h', k1, rfl, by simpa [natC] using k2, k3, ?_, fun b hb => k4 b (by omega) ?_⟩
        · have : h'.get h2.next = some (.cells (cellsA i) 59 false) := (k4 h2.next (by omega) (by
            obtain ⟨o1, ⟨rfl, -⟩ | ⟨b, rfl, o3, o4, -⟩⟩ := O
            · trivial
            · exact Nat.ne_of_lt o4)).trans q3
          exact ld1_at this rfl
        · obtain ⟨o1, ⟨rfl, -⟩ | ⟨b, rfl, o3, -⟩⟩ := O
          · trivial
          · exact fun z => by have : b = _ := z; omega
      refine (Mc.of (K := xNone) G xNone_good (Wc_mods (vc_sound (hs := []) (Q := fun x a' g => x = .normal ∧ ∃ p1 n2 c3, a'.get 16 = some (.slice p1 n2 c3) ∧ n2 = seen.size + 1 ∧ OwnS 1306 g 3 p1 n2 c3 (natC .i64 ((seen.push i).toList.map kf)) ∧ g.next = h3.next + 2 ∧ ∀ b, b < 1305 → g.get b = h3.get b) ha3 ?_)) ?_).mono ?_
      · suffices hq : ∀ g : AH, g = h3.alloc (.cells [.int .i64 (kf i : Nat)] 3 false) → ∃ (p1 : Option Addr) (n2 c3 : Nat) (h4 : AH), aBuiltin Tryz.prog g .append #[57, 57] [.slice p seen.size c, .slice (some ⟨h3.next, 0, none⟩) 1 1] = some (.slice p1 n2 c3, h4) ∧
          ((ld1 h4 h2.next (0 + 3) = some (.bool true) ∧ (AX.normal = AX.normal ∧ ∃ p4 n5 c6, some (Value.slice p1 n2 c3) = some (.slice p4 n5 c6) ∧ n5 = seen.size + 1 ∧ OwnS 1306 h4 3 p4 n5 c6 (natC .i64 ((seen.push i).toList.map kf)) ∧ h4.next = h3.next + 2 ∧ ∀ b, b < 1305 → h4.get b = h3.get b)) ∨
           (ld1 h4 h2.next (0 + 3) = some (.bool false) ∧ (∃ i9 : Int, ld1 h4 1293 (0 + 4) = some (.int .i64 i9) ∧ (∀ i10 : Int, i10 = IntKind.wrap .i64 (i9 + 1) → (∃ h13 : AH, st1 h4 1293 (0 + 4) (.int .i64 i10) = some h13 ∧
            (AX.normal = AX.normal ∧ ∃ p4 n5 c6, some (Value.slice p1 n2 c3) = some (.slice p4 n5 c6) ∧ n5 = seen.size + 1 ∧ OwnS 1306 h13 3 p4 n5 c6 (natC .i64 ((seen.push i).toList.map kf)) ∧ h13.next = h3.next + 2 ∧ ∀ b, b < 1305 → h13.get b = h3.get b)))))) from Eq.mpr (by kernel_rfl) hq
        intro g eg
        obtain ⟨p1, n2, c3, g4, k1, k2, k3, k4, k5, k6⟩ := happ g eg
        exact ⟨p1, n2, c3, g4, k1, .inl ⟨k5, rfl, p1, n2, c3, rfl, k2, k3, k4, k6⟩⟩
      · rintro x e' g ⟨⟨a', -, -, p1, n2, c3, -, -, -, r4, -⟩, -⟩
        omega
      · rintro x e4 h4 φ4 w4 ⟨⟨⟨a', ha', rfl, p1, n2, c3, r1, rfl, r3, r4, r5⟩, hmods⟩, t4⟩ t5
        have r100 : e4.get 100 = some (ptr 1305 0) := (hmods 100 (of_decide_eq_true (by kernel_rfl))).trans (ha3 100 _ rfl)
        have r11 : e4.get 11 = some (.pointer (some ⟨1293, 0, none⟩)) := (hmods 11 (of_decide_eq_true (by kernel_rfl))).trans (ha3 11 _ rfl)
        have r2 : e4.get 2 = some (.pointer (some ⟨843, 0, none⟩)) := (hmods 2 (of_decide_eq_true (by kernel_rfl))).trans (ha3 2 _ rfl)
        have hni : i ∉ seen.toList := fun q => by
          have : seen.contains i = true := by rw [Array.contains_iff_mem]; exact Array.mem_toList_iff.1 q
          rw [show (entA i).born = i from rfl, this] at hys; cases hys
        have hsp : (seen.push i).size = seen.size + 1 := Array.size_push ..
        refine ih (seen.push i) e4 h4 φ4 w4 5 p1 c3 (by omega) (Nat.le_refl _) (by omega) ?_ ?_ (I3.tn t3.rel t4) (by rw [hsp]; exact agr_wA r100 (ha' _ _ r1) r11 r2) (by rw [hsp]; exact r3) fun b hb => ?_
        · rw [Array.toList_push]
          exact List.nodup_append.2 ⟨hnd, by simp, fun x hx y hy q => hni (by rw [List.mem_singleton] at hy; rw [← hy, ← q]; exact hx)⟩
        · intro x hx
          rw [Array.toList_push] at hx
          rcases List.mem_append.1 hx with hx | hx
          · exact h5 x hx
          · rw [List.mem_singleton.1 hx]; exact hi
        · rw [r5 b hb, q4 b (by omega)]
          exact hold b hb
/-! ## The walk, as it is remembered -/
noncomputable def walkBody : Code := (Tryz.f4.body).getD .skip
noncomputable def keepOk (H : FH) (b : Nat) (o : Option FObj) : Bool := cnd (Nat.beq b 1323) true (cnd (Nat.blt b 1305) (cnd (Nat.beq b 843) false (cnd (Nat.beq b 1293) false (match o with | some o => objIs b o H | none => true))) false)
noncomputable def allB {α : Type} (f : α → Bool) (l : List α) : Bool := List.rec (motive := fun _ => Bool) true (fun a _ ih => cnd (f a) ih false) l
theorem allB_mem {α : Type} {f : α → Bool} : ∀ {l : List α}, allB f l = true → ∀ x ∈ l, f x = true
  | a :: l, h, x, hx => by
    have h' : cnd (f a) (allB f l) false = true := h
    rw [cnd_eq] at h'
    cases h1 : f a with
    | false => rw [h1] at h'; cases h'
    | true =>
      rw [h1] at h'
      rcases List.mem_cons.1 hx with rfl | hx
      · exact h1
      · exact allB_mem h' x hx
noncomputable def inK (b : Nat) (l : List (Nat × Option FObj)) : Bool := List.rec (motive := fun _ => Bool) false (fun q _ ih => cnd (Nat.beq q.1 b) true ih) l
theorem inK_mem {b : Nat} : ∀ {l : List (Nat × Option FObj)}, inK b l = true → ∃ q ∈ l, q.1 = b
  | q :: l, h => by
    have h' : cnd (Nat.beq q.1 b) true (inK b l) = true := h
    rw [cnd_eq] at h'
    cases h1 : Nat.beq q.1 b with
    | true => exact ⟨q, List.mem_cons_self .., Nat.eq_of_beq_eq_true h1⟩
    | false =>
      rw [h1] at h'
      obtain ⟨x, hx, e⟩ := inK_mem h'
      exact ⟨x, List.mem_cons_of_mem _ hx, e⟩
noncomputable def walkChk (m0 : Memo) (rep : FObj) (rep2 : FObj) (e : Env) (H : FH) : Bool :=
  cnd (Nat.beq H.next 1305) (cnd (slotIs 2 (.pointer (some ⟨843, 0, none⟩)) e) (cnd (slotIs 11 (.pointer (some ⟨1293, 0, none⟩)) e) (cnd (slotIs 12 (.map (some 1294)) e) (cnd (slotIs 16 (.slice none 0 0) e)
    (cnd (objIs 843 rep H) (cnd (objIs 1293 rep2 H) (cnd (mapIs 1294 es0 5 H) (cnd (allB (fun p => cnd (inK p.1 m0.dlt) true (keepOk H p.1 (some p.2))) m0.req) (allB (fun p => keepOk H p.1 p.2) m0.dlt) false) false) false) false) false) false) false) false) false
theorem cndT {a b : Bool} (h : cnd a b false = true) : a = true ∧ b = true := by
  rw [cnd_eq] at h
  cases a with
  | false => cases h
  | true => exact ⟨rfl, h⟩
structure WalkS (m0 : Memo) (e : Env) (h : AH) : Prop where
  nx : h.next = 1305
  s2 : e.get 2 = some (.pointer (some ⟨843, 0, none⟩))
  s11 : e.get 11 = some (.pointer (some ⟨1293, 0, none⟩))
  s12 : e.get 12 = some (.map (some 1294))
  s16 : e.get 16 = some (.slice none 0 0)
  b843 : h.get 843 = some (.cells [.slice none 0 0, .slice none 0 0, .bool false, .int .i64 0, .int .i64 0] 24 false)
  b1293 : h.get 1293 = some (.cells [.slice none 0 0, .slice (some ⟨1216, 0, none⟩) 1 openCap, .bool false, .int .i64 0, .int .i64 0] 24 false)
  mp : h.get 1294 = some (.map es0 5)
  keep : ∀ b o, (dltA m0 m0.h0.abs).get b = some o → b = 1323 ∨ (b < 1305 ∧ b ≠ 843 ∧ b ≠ 1293 ∧ h.get b = some o)
theorem keepOk_eq {H : FH} {b : Nat} {o : FObj} (h : keepOk H b (some o) = true) : b = 1323 ∨ (b < 1305 ∧ b ≠ 843 ∧ b ≠ 1293 ∧ H.abs.get b = some o.abs) := by
  unfold keepOk at h
  simp only [cnd_eq] at h
  cases h1 : Nat.beq b 1323 with
  | true => exact .inl (Nat.eq_of_beq_eq_true h1)
  | false =>
    cases h2 : Nat.blt b 1305 with
    | false => rw [h1, h2] at h; cases h
    | true =>
      cases h3 : Nat.beq b 843 with
      | true => rw [h1, h2, h3] at h; cases h
      | false =>
        cases h4 : Nat.beq b 1293 with
        | true => rw [h1, h2, h3, h4] at h; cases h
        | false =>
          rw [h1, h2, h3, h4] at h
          have h : objIs b o H = true := h
          exact .inr ⟨Nat.blt_eq.mp h2, Nat.ne_of_beq_eq_false h3, Nat.ne_of_beq_eq_false h4, objIs_eq h⟩
theorem walkChk_eq {m0 : Memo} {rep rep2 : FObj} (hr : rep.abs = .cells [.slice none 0 0, .slice none 0 0, .bool false, .int .i64 0, .int .i64 0] 24 false) (hr2 : rep2.abs = .cells [.slice none 0 0, .slice (some ⟨1216, 0, none⟩) 1 openCap, .bool false, .int .i64 0, .int .i64 0] 24 false) {e : Env} {H : FH} (h : walkChk m0 rep rep2 e H = true) : WalkS m0 e H.abs := by
  unfold walkChk at h
  obtain ⟨h1, h⟩ := cndT h
  obtain ⟨h2, h⟩ := cndT h
  obtain ⟨h3, h⟩ := cndT h
  obtain ⟨h4, h⟩ := cndT h
  obtain ⟨h5, h⟩ := cndT h
  obtain ⟨h6, h⟩ := cndT h
  obtain ⟨h7, h⟩ := cndT h
  obtain ⟨h8, h⟩ := cndT h
  obtain ⟨h9, h10⟩ := cndT h
  refine ⟨Nat.eq_of_beq_eq_true h1, slotIs_eq h2, slotIs_eq h3, slotIs_eq h4, slotIs_eq h5, (objIs_eq h6).trans (congrArg some hr), (objIs_eq h7).trans (congrArg some hr2), mapIs_eq h8, fun b o hb => ?_⟩
  rcases dltA_get (m := m0) (h := m0.h0.abs) (b := b) with ⟨q, hq, rfl, e⟩ | ⟨hno, e⟩
  · rw [e] at hb
    obtain ⟨q1, q2⟩ := q
    cases q2 with
    | none => cases hb
    | some o2 =>
      have : o = o2.abs := (Option.some.inj hb).symm
      subst this
      exact keepOk_eq (allB_mem h10 _ hq)
  · rw [e] at hb
    have hb : (m0.h0.abs).get b = some o := hb
    rw [FH.abs_get, show m0.h0.get b = m0.h0.tr.get b by unfold FH.get; rw [forceN_eq, Tr.getP_pt]] at hb
    have hb : ((reqT m0.req).get b).map FObj.abs = some o := hb
    cases hq : (reqT m0.req).get b with
    | none => rw [hq] at hb; cases hb
    | some o2 =>
      rw [hq] at hb
      have : o = o2.abs := (Option.some.inj hb).symm
      subst this
      obtain ⟨p, hp, rfl, rfl⟩ := reqT_get hq
      have h11 := allB_mem h9 _ hp
      simp only [cnd_eq] at h11
      cases h12 : inK p.1 m0.dlt with
      | true =>
        obtain ⟨q, hq, e⟩ := inK_mem h12
        exact absurd e (hno q hq)
      | false =>
        rw [h12] at h11
        exact keepOk_eq h11
theorem spansW : spansC (bitsL [4, 5, 6, 7, 8]) 0 [] = some [(4, 5)] := by kernel_rfl
abbrev wF : Env := (((Tr.nil.set 12 (.map (some 1294))).set 16 (.slice none 0 0)).set 11 (.pointer (some ⟨1293, 0, none⟩))).set 2 (.pointer (some ⟨843, 0, none⟩))
theorem walkTold (G : Good Tryz.prog) {K K5 : Xs} {F : Fs} (X : GoodX Tryz.prog K) (Bo : Both F K) (X5 : GoodX Tryz.prog K5) (kk : KWalk K5) {m0 : Memo} {rep rep2 : FObj} (hr : rep.abs = .cells [.slice none 0 0, .slice none 0 0, .bool false, .int .i64 0, .int .i64 0] 24 false) (hr2 : rep2.abs = .cells [.slice none 0 0, .slice (some ⟨1216, 0, none⟩) 1 openCap, .bool false, .int .i64 0, .int .i64 0] 24 false)
    {n : Nat} (hs : chkRun (gex Tryz.prog F n none (splitC 12 walkBody).1 (Tr.ofList m0.args) m0.h0) (walkChk m0 rep rep2) = true)
    (hv : m0.v = .tuple #[.agg #[.slice (some ⟨1323, 0, none⟩) 1 openCap, .slice (some ⟨1216, 0, none⟩) 1 openCap, .bool false, .int .i64 0, .int .i64 0], .int .i64 0]) (hn1 : m0.n1 = 1324)
    (hd : ∀ o, (dltA m0 m0.h0.abs).get 1323 = some o → o = .cells [.int .i64 4, .int .i64 5] 70 false) :
    TellsM Tryz.prog 4 (xExact m0.args m0.h0.abs m0.v (dltA m0 m0.h0.abs)) := by
  intro args h v h' hlt hg
  unfold xExact at hg
  split at hg
  rotate_left
  · cases hg
  rename_i hah
  obtain ⟨rfl, rfl⟩ := hah
  simp only [Option.some.injEq, Prod.mk.injEq] at hg
  obtain ⟨rfl, rfl⟩ := hg
  have hN : (dltA m0 m0.h0.abs).next = 1324 := hn1
  refine ⟨Tryz.f4, walkBody, Tryz.func4, rfl, fun B φ w => ?_⟩
  rw [hN, hv]
  refine Mc.pre (S := fun e h => WalkS m0 e h) G X 12 ((Wc_of_run Bo hs).mono fun x e1 h1 q => ?_) ?_
  · obtain ⟨rfl, H, rfl, q⟩ := q
    have s := walkChk_eq hr hr2 q
    exact ⟨rfl, s, by rw [s.nx]; decide⟩
  intro e h φ w s hle
  have ha : agr wF e := agr_set_of (agr_set_of (agr_set_of (agr_set_of agr_nil s.s12) s.s16) s.s11) s.s2
  refine Mc.seq (Mc.seq ((Mc.rangeV (K := xNone) G xNone_good (pre := [_]) (m := 1294) rfl rfl rfl rfl Tryz.underlying51 ha (hh := h) (aa := wF.set 99 (.map (some 1294)))
    (Eq.mpr (by kernel_rfl) (⟨rfl, rfl⟩ : wF.set 99 (.map (some 1294)) = wF.set 99 (.map (some 1294)) ∧ h = h))
    (es := es0) (clock := 5) rfl s.mp (by rw [s.nx]; decide)).mono ?_))
  rintro x e3 h3 φ3 w3 ⟨rfl, ha3, rfl, I3⟩ t3
  rw [s.nx] at ha3 I3
  have hget : ∀ c, ({ h with next := 1305 + 1 } : AH).get c = h.get c := fun c => rfl
  rw [s.nx]
  refine Mc.block (walkLoop (hb := h) G s.mp (Nat.le_refl _) ?_ 5 #[] e3 _ φ3 w3 5 none 0 rfl (Nat.le_refl _) rfl List.nodup_nil (fun x hx => by cases hx) I3 (agr_wA (ha3 _ _ rfl) (ha3 _ _ rfl) (ha3 _ _ rfl) (ha3 _ _ rfl)) ⟨rfl, .inl ⟨rfl, rfl, rfl⟩⟩ (fun b _ => rfl))
  intro e4 h4 φ4 w4 p c l ha4 O hl hsrt hlt6 hold hn4
  show TnB _ _ _ _ _ _ _ _ → Mc _ _ _ _ _ _ _ _ _
  intro t4
  obtain ⟨-, ⟨-, z, -⟩ | ⟨b, rfl, hb1, hb2, hg4, -⟩⟩ := O
  · exact absurd z (by decide)
  have key : Wf Tryz.prog K5 16 [.slice (some ⟨b, 0, none⟩) 5 c] h4 fun r0 h1 => Wf Tryz.prog K5 17 [.slice (some ⟨b, 0, none⟩) 5 c] h1 fun r2 h3 => r2 = .slice (some ⟨1323, 0, none⟩) 1 openCap ∧ h3.next = 1324 ∧ h3.get 1323 = some (.cells [.int .i64 4, .int .i64 5] 70 false) ∧ ∀ b, b < 1305 → h3.get b = h4.get b := by
    refine sort5 kk.sort hl hg4 hlt6 fun h' nr w => ?_
    rw [hsrt] at w
    have hx : xOf 70 [.slice (some ⟨b, 0, none⟩) 5 c] h' = some (.slice (some ⟨h'.next + 1 + 1, 0, none⟩) 1 openCap, ⟨h'.tr.set (h'.next + 1 + 1) (.cells [.int .i64 4, .int .i64 5] 70 false), h'.next + 1 + 2⟩) := by
      unfold xOf
      simp only [w]
      rw [List.drop_zero, show (natC .i64 [4, 5, 6, 7, 8]).take 5 = natC .i64 [4, 5, 6, 7, 8] from rfl, show numsOf (natC .i64 [4, 5, 6, 7, 8]) = some [4, 5, 6, 7, 8] from by kernel_rfl]
      simp only
      have hcc : (Nat.ble (0 + 5) (natC .i64 [4, 5, 6, 7, 8]).length && Nat.blt 5 9223372036854775807 && Nat.blt b h'.next) = true := by
        have : Nat.blt b h'.next = true := by rw [Nat.blt_eq, nr.1]; exact hb2
        rw [this]
        rfl
      rw [hcc, spansW]
      rfl
    have hn' : h'.next = 1321 := nr.1.trans hn4
    rw [hn'] at hx
    refine Wf_sum kk.of hx (by rw [hn']; show 1321 ≤ 1324; decide) ⟨rfl, rfl, ?_, fun y hy => ?_⟩
    · show (h'.tr.set 1323 _).get 1323 = _
      rw [Tr.get_set, if_pos rfl]
    · show (h'.tr.set 1323 _).get y = _
      rw [Tr.get_set, if_neg (by omega)]
      exact nr.2 y (by omega)
  let Rg : AH → Prop := fun g => g.next = 1324 ∧ g.get 843 = some (.cells [.slice (some ⟨1323, 0, none⟩) 1 openCap, .slice (some ⟨1216, 0, none⟩) 1 openCap, .bool false, .int .i64 0, .int .i64 0] 24 false) ∧ g.get 1323 = some (.cells [.int .i64 4, .int .i64 5] 70 false) ∧ ∀ b, b < 1305 → b ≠ 843 → b ≠ 1293 → g.get b = h.get b
  have V : Wf Tryz.prog K5 16 [(.slice (some ⟨b, 0, none⟩) 5 c)] h4 fun r0 h1 =>
    (Wf Tryz.prog K5 17 [(.slice (some ⟨b, 0, none⟩) 5 c)] h1 fun r2 h3 =>
    (∃ (p4 : Option Addr) (n5 c6 : Nat), r2 = (.slice p4 n5 c6) ∧
    ((∃ h9 : AH, st1 h3 1293 0 (.slice p4 n5 c6) = some h9 ∧
    ((∃ (p12 : Option Addr) (n13 c14 : Nat), ∃ (p15 : Option Addr) (n16 c17 : Nat), ∃ b18 : Bool, ∃ i19 : Int, ∃ i20 : Int, ldN h9 1293 0 5 = some ([(.slice p12 n13 c14), (.slice p15 n16 c17), (.bool b18), (.int .i64 i19), (.int .i64 i20)] : List Value) ∧
    ((List.length ([(.slice p12 n13 c14), (.slice p15 n16 c17), (.bool b18), (.int .i64 i19), (.int .i64 i20)] : List Value) = 5) ∧ ∃ h23 : AH, stN h9 843 0 ([(.slice p12 n13 c14), (.slice p15 n16 c17), (.bool b18), (.int .i64 i19), (.int .i64 i20)] : List Value) = some h23 ∧
    (AX.ret = AX.ret ∧ some (Value.int .i64 0) = some (.int .i64 0) ∧ some (Value.pointer (some ⟨843, 0, none⟩)) = some (Value.pointer (some ⟨843, 0, none⟩)) ∧ Rg h23)))))))) := by
    refine key.mono fun _ h1 q => q.mono ?_
    rintro _ h3 ⟨rfl, n3, w3, o3⟩
    have r1 : h3.get 1293 = some (.cells [.slice none 0 0, .slice (some ⟨1216, 0, none⟩) 1 openCap, .bool false, .int .i64 0, .int .i64 0] 24 false) := (o3 _ (by decide)).trans ((hold _ (by decide)).trans s.b1293)
    have r2 : h3.get 843 = some (.cells [.slice none 0 0, .slice none 0 0, .bool false, .int .i64 0, .int .i64 0] 24 false) := (o3 _ (by decide)).trans ((hold _ (by decide)).trans s.b843)
    have k9 : st1 h3 1293 0 (.slice (some ⟨1323, 0, none⟩) 1 openCap) = some (h3.set 1293 (.cells [.slice (some ⟨1323, 0, none⟩) 1 openCap, .slice (some ⟨1216, 0, none⟩) 1 openCap, .bool false, .int .i64 0, .int .i64 0] 24 false)) := st1_of r1 (by decide)
    refine ⟨_, _, _, rfl, _, k9, ?_⟩
    have w9 := get_set_self 1293 h3 (.cells [.slice (some ⟨1323, 0, none⟩) 1 openCap, .slice (some ⟨1216, 0, none⟩) 1 openCap, .bool false, .int .i64 0, .int .i64 0] 24 false)
    have n9 := near_set 1293 h3 (.cells [.slice (some ⟨1323, 0, none⟩) 1 openCap, .slice (some ⟨1216, 0, none⟩) 1 openCap, .bool false, .int .i64 0, .int .i64 0] 24 false)
    refine ⟨_, _, _, _, _, _, _, _, _, ldN_all w9 rfl, rfl, _, stN_all ((n9.2 843 (by decide)).trans r2) rfl, rfl, rfl, rfl, ?_, get_set_self _ _ _, ?_, fun y hy h8 h12 => ?_⟩
    · rw [(near_set 843 _ _).1, n9.1, n3]
    · rw [(near_set 843 _ _).2 _ (by decide), n9.2 _ (by decide)]
      exact w3
    · rw [(near_set 843 _ _).2 _ h8, n9.2 _ h12, o3 y hy]
      exact hold y hy
  refine ((Mc.of (N := 1324) G X5 (vc_sound (hs := []) (a := ((Tr.nil.set 16 (.slice (some ⟨b, 0, none⟩) 5 c)).set 11 (.pointer (some ⟨1293, 0, none⟩))).set 2 (.pointer (some ⟨843, 0, none⟩))) (Q := fun x a' g => x = .ret ∧ a'.get 3 = some (.int .i64 0) ∧ a'.get 2 = some (.pointer (some ⟨843, 0, none⟩)) ∧ Rg g) (agr_set_of (agr_set_of (agr_set_of agr_nil (ha4 _ _ rfl)) (ha4 _ _ rfl)) (ha4 _ _ rfl)) (Eq.mpr (by kernel_rfl) V)) (fun x e' g q => by obtain ⟨a', -, -, -, -, q, -⟩ := q; rw [q]; exact Nat.le_refl _)).mono ?_)
  rintro x e5 h5 φ5 w5 ⟨⟨a5, ha5, rfl, q3, q2, n5, w5, u5, o5⟩, t5⟩
  refine ⟨.inr rfl, ?_, fun b o hbo => ?_⟩
  · have g2 := ha5 2 _ q2
    have g3 := ha5 3 _ q3
    have hl : aLoad Tryz.prog h5 24 (.pointer (some ⟨843, 0, none⟩)) = some (.agg #[.slice (some ⟨1323, 0, none⟩) 1 openCap, .slice (some ⟨1216, 0, none⟩) 1 openCap, .bool false, .int .i64 0, .int .i64 0]) := by
      rw [aLoad_agg agg24, cells24]
      unfold loadN
      rw [w5]
      rfl
    have hres : Tryz.f4.results.toList = [.cell 2 24, .tmp 3] := rfl
    rw [hres]
    simp [aResults, aResult, ev, g2, g3, hl]
  · rcases s.keep b o hbo with rfl | ⟨k1, k2, k3, k4⟩
    · rw [u5, hd o hbo]
    · rw [o5 b k1 k2 k3]
      exact k4
end Go.Am
