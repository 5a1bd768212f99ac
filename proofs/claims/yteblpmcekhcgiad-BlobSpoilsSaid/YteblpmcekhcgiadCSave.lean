/-
  A TEXT IS SAVED: its bytes, its nodes, all of it.
-/
import Derived.Test.YteblpmcekhcgiadCChunk
import Derived.Test.YteblpmcekhcgiadCLevels
set_option linter.unusedVariables false
set_option linter.unusedSimpArgs false
set_option maxRecDepth 100000
namespace Go.Am
open Go.Proofs
def wr (nw : List (List Nat)) (as' : List Nat) (ss : List (List Nat)) : List (List Nat) := (as'.zip ss).foldl (fun nw q => nw.set q.1 q.2) nw
def mkP (st : Nat) (as' : List Nat) (ss : List (List Nat)) : List Tr3 := List.zipWith (fun a s => (a, st, crcOf s)) as' ss
theorem wr_len : ∀ (nw : List (List Nat)) (as' : List Nat) (ss : List (List Nat)), (wr nw as' ss).length = nw.length
  | nw, [], ss => by simp [wr]
  | nw, a :: as', [] => by simp [wr]
  | nw, a :: as', s :: ss => by
    show (wr (nw.set a s) as' ss).length = nw.length
    rw [wr_len, List.length_set]
theorem wr_snoc (nw : List (List Nat)) (as' : List Nat) (ss : List (List Nat)) (a : Nat) (s : List Nat) (h : as'.length = ss.length) : wr nw (as' ++ [a]) (ss ++ [s]) = (wr nw as' ss).set a s := by
  unfold wr
  rw [List.zip_append h, List.foldl_append]
  rfl
theorem mkP_snoc (st : Nat) (as' : List Nat) (ss : List (List Nat)) (a : Nat) (s : List Nat) (h : as'.length = ss.length) : mkP st (as' ++ [a]) (ss ++ [s]) = mkP st as' ss ++ [(a, st, crcOf s)] := by
  unfold mkP
  rw [List.zipWith_append h]
  rfl
theorem mkP_len (st : Nat) (as' : List Nat) (ss : List (List Nat)) (h : as'.length = ss.length) : (mkP st as' ss).length = as'.length := by
  unfold mkP
  rw [List.length_zipWith]
  omega
theorem Shows.take {h : AH} {p : Option Addr} {n m sz : Nat} {cs : List Value} (s : Shows h p n sz cs) (hm : m ≤ n) : Shows h p m sz (cs.take (m * sz)) := by
  have hle : m * sz ≤ n * sz := Nat.mul_le_mul_right _ hm
  refine ⟨by rw [List.length_take, s.1]; omega, ?_⟩
  rcases s.2 with h0 | ⟨b, off, al, e, ro, hp, hb, hg, hl, hc⟩
  · exact .inl (by omega)
  · exact .inr ⟨b, off, al, e, ro, hp, hb, hg, by omega, by rw [← hc, List.take_take, Nat.min_eq_left hle]⟩
theorem Shows.keep {h h' : AH} {p : Option Addr} {n sz : Nat} {cs : List Value} (s : Shows h p n sz cs) (hn : h.next ≤ h'.next) (hg : ∀ a, p = some a → a.block < h.next → h'.get a.block = h.get a.block) : Shows h' p n sz cs := by
  refine ⟨s.1, s.2.imp id ?_⟩
  rintro ⟨b, off, al, e, ro, hp, hb, hgb, hl, hc⟩
  exact ⟨b, off, al, e, ro, hp, Nat.lt_of_lt_of_le hb hn, by rw [hg _ hp hb]; exact hgb, hl, hc⟩
/-- The blocks of a text. -/
def blks (text : List Nat) (N : Nat) : List (List Nat) := (List.range N).map fun k => blkOf ((text.drop (k * 128)).take 128)
theorem blks_succ (text : List Nat) (N : Nat) : blks text (N + 1) = blks text N ++ [blkOf ((text.drop (N * 128)).take 128)] := by simp [blks, List.range_succ]
theorem blks_get (text : List Nat) {N k : Nat} (h : k < N) : (blks text N)[k]? = some (blkOf ((text.drop (k * 128)).take 128)) := by simp [blks, h]
theorem blks_len (text : List Nat) (N : Nat) : (blks text N).length = N := by simp [blks]
theorem Grow.near' {l : Nat} {h h' : AH} {elem : TypeId} {sz : Nat} {p : Option Addr} {n c : Nat} {cs : List Value} (g : Grow (l + 1) h elem sz p n c cs) (k : Near l h h') : Grow (l + 1) h' elem sz p n c cs := g.near k (Nat.lt_succ_self _) (Nat.le_refl _)
def Keep1' (p : Option Addr) (g g' : AH) : Prop := g.next ≤ g'.next ∧ ∀ b, b < g.next → (∀ a, p = some a → a.block ≠ b) → g'.get b = g.get b
section
variable {K : Xs} {h : AH} {p : Nat} {F : List Nat} {d m : Nat} {W : Nat} {nw : List (List Nat)} {M : List Nat} {st : Nat} {ba : Int}
structure KSave (K : Xs) : Prop where
  pPutAt : K 34 = none
  mTaken : K 41 = none
  mAll : K 47 = some (.sum (xAll 115))
  sHas : K 40 = none
  sEach : K 46 = none
  sEach1 : K 53 = none
  sRight : K 54 = none
  sSingle : K 58 = none
  pWrite : K 42 = none
  dWrite : K 48 = none
  dCount : K 27 = none
  dHas : K 28 = none
  dSpend : K 56 = none
  sOf : K 29 = none
  sMore : K 38 = some (.sum xMore)
  nBytes : K 36 = none
  qBytes : K 44 = none
  qRight : K 49 = none
  qWidths : K 51 = none
  fPut : K 50 = none
  fRoom : K 57 = none
  cB : K 33 = none
  cB1 : K 39 = none
  cP : K 35 = none
  cP1 : K 43 = none
  bUp : K 30 = none
  bLevels : K 17 = none
  bNeed : K 7 = none
  bText : K 23 = none
  bNodes : K 24 = none
  bSave : K 11 = none
theorem putAtP (kk : KSave K) (B : PO h p F d m W nw M st ba) (hw : W < 100000) {i : Nat} (hi : M[i]? = some 2) {pp : Option Addr} {n c : Nat} {data : List Nat} (hd : Shows h pp n 1 (natC .u8 data)) (hpp : pp = none ∨ ∃ b off, pp = some ⟨b, off, none⟩) (hb : ∀ x ∈ data, x < 256) (hl : data.length ≤ 128) :
    Wf Try.prog K 34 [.pointer (some ⟨p, 0, none⟩), .int .i64 (i : Nat), .slice pp n c] h fun v h' => v = .tuple #[qV (i, st, crcOf (blkOf data)), .int .i64 0] ∧ ∃ F', PO h' p F' d m (W + 1) (nw.set i (blkOf data)) M st ba ∧ Fr F h h' F' := by
  obtain ⟨Fd, B⟩ := B
  refine (pilePutAt kk.pPutAt kk.mTaken kk.mAll kk.sHas kk.sEach kk.sEach1 kk.sRight kk.sSingle kk.pWrite kk.dWrite kk.dCount kk.dHas kk.dSpend kk.sOf kk.sMore B hw i hd hpp hb).mono ?_
  rintro v g (⟨z, -⟩ | ⟨-, -, rfl, Fd', P, f⟩ | ⟨-, z, -⟩)
  · omega
  · exact ⟨rfl, _, ⟨Fd', P⟩, f⟩
  · exact absurd hi z
/-- What holds while parts are put, k of them. -/
def SJ (h : AH) (p : Nat) (F : List Nat) (d m : Nat) (W : Nat) (nw : List (List Nat)) (M : List Nat) (st : Nat) (ba : Int) (a0 a1 a2 a3 a4 l : Nat) (vat vsl : Value) (step : Nat) (as' : List Nat) (SS : List (List Nat)) (k : Nat) (g : AH) : Prop :=
  ∃ (F' : List Nat) (pp : Option Addr) (cc : Nat), PO g p F' d m (W + k) (wr nw (as'.take k) (SS.take k)) M st ba ∧ (∀ c, c < h.next → c ∉ F → g.get c = h.get c) ∧ (∀ c ∈ F', c ∈ F ∨ l < c) ∧ l < g.next ∧
    g.get h.next = some (.cells [.pointer (some ⟨p, 0, none⟩)] 25 false) ∧ g.get a0 = some (.cells [vat] 27 false) ∧ g.get a1 = some (.cells [.slice none 0 0] 39 false) ∧ g.get a2 = some (.cells [.int .i64 0] 28 false) ∧
    g.get a3 = some (.cells [.slice pp k cc] 39 false) ∧ (∃ t, g.get a4 = some (.cells [vsl] t false)) ∧ g.get (a4 + 1) = some (.cells [.int .i64 (step : Nat)] 3 false) ∧ Grow (l + 1) g 36 3 pp k cc (ptr3 (mkP st (as'.take k) (SS.take k))) ∧ (∀ a, pp = some a → a.block ∉ F')
theorem SJ.near {h g g' : AH} {a0 a1 a2 a3 a4 l : Nat} {vat vsl : Value} {step : Nat} {as' : List Nat} {SS : List (List Nat)} {k : Nat} (j : SJ h p F d m W nw M st ba a0 a1 a2 a3 a4 l vat vsl step as' SS k g) (n : Near l g g') (hF : ∀ c ∈ F, c < h.next) (hl : h.next < l ∧ a0 < l ∧ a1 < l ∧ a2 < l ∧ a3 < l ∧ a4 + 1 < l) : SJ h p F d m W nw M st ba a0 a1 a2 a3 a4 l vat vsl step as' SS k g' := by
  obtain ⟨F', pp, cc, j1, j2, j3, j4, j5, j6, j7, j8, j9, ⟨t, j10⟩, j11, j12, j13⟩ := j
  have lF : l ∉ F' := fun z => (j3 l z).elim (fun y => by have := hF l y; omega) (fun y => by omega)
  exact ⟨F', pp, cc, j1.nearN n lF, fun c hc hn => by rw [n.2 c (by omega), j2 c hc hn], j3, by rw [n.1]; exact j4, by rw [n.2 _ (by omega)]; exact j5, by rw [n.2 _ (by omega)]; exact j6, by rw [n.2 _ (by omega)]; exact j7, by rw [n.2 _ (by omega)]; exact j8, by rw [n.2 _ (by omega)]; exact j9, ⟨t, by rw [n.2 _ (by omega)]; exact j10⟩, by rw [n.2 _ (by omega)]; exact j11, j12.near' n, j13⟩
/-- One part more was put. -/
theorem SJ.next {h g23 g35 g41 g52 : AH} {a0 a1 a2 a3 a4 l : Nat} {vat vsl : Value} {step : Nat} {as' : List Nat} {SS : List (List Nat)} {k a : Nat} {s : List Nat} (hF : ∀ c ∈ F, c < h.next) (hl : h.next < l ∧ a0 < l ∧ a1 < l ∧ a2 < l ∧ a3 < l ∧ a4 + 1 < l) (ne : h.next < a0 ∧ a0 < a1 ∧ a1 < a2 ∧ a2 < a3 ∧ a3 < a4)
    (ha : as'[k]? = some a) (hs : SS[k]? = some s) {F' F'' : List Nat} {pp p' : Option Addr} {cc c' : Nat}
    (j2 : ∀ c, c < h.next → c ∉ F → g23.get c = h.get c) (j3 : ∀ c ∈ F', c ∈ F ∨ l < c) (j4 : l < g23.next) (j5 : g23.get h.next = some (.cells [.pointer (some ⟨p, 0, none⟩)] 25 false)) (j6 : g23.get a0 = some (.cells [vat] 27 false)) (j7 : g23.get a1 = some (.cells [.slice none 0 0] 39 false)) (j8 : g23.get a2 = some (.cells [.int .i64 0] 28 false))
    (j10 : ∃ t, g23.get a4 = some (.cells [vsl] t false)) (j11 : g23.get (a4 + 1) = some (.cells [.int .i64 (step : Nat)] 3 false)) (f35 : Fr F' g23 g35 F'') (o41 : Old g35 g41) (B41 : PO g41 p F'' d m (W + k + 1) ((wr nw (as'.take k) (SS.take k)).set a s) M st ba)
    (kp : Keep1' pp g41 g52) (hpp : ∀ x, pp = some x → l < x.block ∧ x.block ∉ F'') (G52 : Grow (l + 1) g52 36 3 p' (k + 1) c' (ptr3 (mkP st (as'.take k) (SS.take k) ++ [(a, st, crcOf s)]))) (hp' : ∀ x, p' = some x → x.block ∉ F'') (hkl : k < as'.length ∧ k < SS.length) :
    SJ h p F d m W nw M st ba a0 a1 a2 a3 a4 l vat vsl step as' SS (k + 1) (g52.set a3 (.cells [.slice p' (k + 1) c'] 39 false)) ∧ (g52.set a3 (.cells [.slice p' (k + 1) c'] 39 false)).get l = g23.get l := by
  have n53 := near_set a3 g52 (.cells [.slice p' (k + 1) c'] 39 false)
  have l35 := f35.1
  have l41 := o41.1
  have keep : ∀ c, c ≤ l → c ∉ F' → g52.get c = g23.get c := fun c hc hn => by rw [kp.2 c (by omega) (fun x e z => by have := (hpp x e).1; omega), o41.2 c (by omega), f35.2.1 c (by omega) hn]
  have nF : ∀ c, h.next ≤ c → c ≤ l → c ∉ F' := fun c h1 h2 z => (j3 c z).elim (fun y => by have := hF c y; omega) (fun y => by omega)
  have nF2 : ∀ c, c < h.next → c ∉ F → c ∉ F' := fun c h1 h2 z => (j3 c z).elim h2 (fun y => by omega)
  have nF'' : ∀ c, h.next ≤ c → c ≤ l → c ∉ F'' := fun c h1 h2 z => (f35.2.2 c z).elim (nF c h1 h2) (fun y => by omega)
  have e1 : as'.take (k + 1) = as'.take k ++ [a] := by
    obtain ⟨h1, rfl⟩ := List.getElem?_eq_some_iff.1 ha
    exact List.take_succ_eq_append_getElem h1
  have e2 : SS.take (k + 1) = SS.take k ++ [s] := by
    obtain ⟨h1, rfl⟩ := List.getElem?_eq_some_iff.1 hs
    exact List.take_succ_eq_append_getElem h1
  have el : (as'.take k).length = (SS.take k).length := by rw [List.length_take, List.length_take]; omega
  have B52 : PO g52 p F'' d m (W + k + 1) ((wr nw (as'.take k) (SS.take k)).set a s) M st ba := B41.imp fun Fd P => P.keep kp.1 fun c hc => kp.2 c (P.mem_lt c hc) (fun x e z => (hpp x e).2 (z ▸ hc))
  refine ⟨⟨F'', p', c', ?_, fun c hc hn => by rw [n53.2 c (by omega), keep c (by omega) (nF2 c hc hn), j2 c hc hn], fun c hc => (f35.2.2 c hc).elim (j3 c) (fun y => .inr (by omega)), by rw [n53.1]; have := kp.1; omega, ?_, ?_, ?_, ?_, get_set_self _ _ _, ?_, ?_, ?_, hp'⟩, by rw [n53.2 _ (by omega), keep l (Nat.le_refl _) (nF l (by omega) (Nat.le_refl _))]⟩
  · rw [e1, e2, wr_snoc _ _ _ _ _ el, ← Nat.add_assoc]
    exact B52.nearN n53 (nF'' a3 (by omega) (by omega))
  · rw [n53.2 _ (by omega), keep _ (by omega) (nF _ (by omega) (by omega))]; exact j5
  · rw [n53.2 _ (by omega), keep _ (by omega) (nF _ (by omega) (by omega))]; exact j6
  · rw [n53.2 _ (by omega), keep _ (by omega) (nF _ (by omega) (by omega))]; exact j7
  · rw [n53.2 _ (by omega), keep _ (by omega) (nF _ (by omega) (by omega))]; exact j8
  · obtain ⟨t, j10⟩ := j10
    exact ⟨t, by rw [n53.2 _ (by omega), keep _ (by omega) (nF _ (by omega) (by omega))]; exact j10⟩
  · rw [n53.2 _ (by omega), keep _ (by omega) (nF _ (by omega) (by omega))]; exact j11
  · rw [e1, e2, mkP_snoc _ _ _ _ _ el]
    exact G52.near n53 (by omega) (Nat.le_refl _)
theorem Grow.frM {lim : Nat} {h h' : AH} {elem : TypeId} {sz : Nat} {p : Option Addr} {n c : Nat} {cs : List Value} {F F' : List Nat} (g : Grow lim h elem sz p n c cs) (f : Fr F h h' F') (ha : ∀ a, p = some a → a.block ∉ F) : Grow lim h' elem sz p n c cs := by
  refine ⟨g.1, ?_⟩
  rcases g.2 with z | ⟨b', hp, h1, h2, h3, h4⟩
  · exact .inl z
  · exact .inr ⟨b', hp, h1, Nat.lt_of_lt_of_le h2 f.1, by rw [f.2.1 b' h2 (ha _ hp)]; exact h3, h4⟩
theorem ePtrS : ElemOk Try.prog 39 36 3 24 := ElemOk_of (by kernel_rfl)
theorem copy_all {P : Program} {h : AH} {t elem : TypeId} {sz by' : Nat} (E : ElemOk P t elem sz by') {b n c : Nat} {cs : List Value} {e : TypeId} (hb : h.get b = some (.cells cs e false)) {p : Option Addr} {m c' : Nat} {ns : List Value} (hs : Shows h p m sz ns) (hp : p = none ∨ ∃ b off, p = some ⟨b, off, none⟩) (hm : 0 < m) (hmn : m ≤ n) (hle : n * sz ≤ cs.length) (st : TypeId) :
    ∃ h', aBuiltin P h .copy #[t, st] [.slice (some ⟨b, 0, none⟩) n c, .slice p m c'] = some (.int .i64 (m : Nat), h') ∧ Near b h h' ∧ h'.get b = some (.cells (ns ++ cs.drop ns.length) e false) := by
  obtain ⟨hu, i, z, hi, hz, hzs, hpos, rfl, rfl⟩ := E
  have hmin : Nat.min m n = m := Nat.min_eq_left hmn
  have hfc : firstC h i.size m (.slice p m c') = some ns := hs.firstC hp
  have hnl := hs.1
  show ∃ h', (match aCopy P h t (.slice (some ⟨b, 0, none⟩) n c) (.slice p m c') with | x => x) = _ ∧ _
  unfold aCopy
  simp only [hu, hi, lenV, hmin, hfc]
  have hp' : 0 < m * i.size := Nat.mul_pos hm hpos
  cases hns : ns with
  | nil => rw [hns] at hnl; simp at hnl; omega
  | cons x xs =>
    have hle2 : 0 + (x :: xs).length ≤ cs.length := by
      rw [← hns, hnl]
      have : m * i.size ≤ n * i.size := Nat.mul_le_mul_right _ hmn
      omega
    simp only
    rw [if_neg (by omega)]
    have : aStoreCells h b 0 (x :: xs) = some (h.set b (.cells (x :: xs ++ cs.drop (x :: xs).length) e false)) := by
      unfold aStoreCells
      rw [hb]
      simp only
      rw [if_pos hle2, List.take_zero, List.nil_append, Nat.zero_add]
    rw [this]
    exact ⟨_, rfl, near_set _ _ _, get_set_self _ _ _⟩
theorem sliceNode (g : AH) (b : Nat) : aSlice Try.prog g 91 (.pointer (some ⟨b, 0, none⟩)) none none none = some (.slice (some ⟨b, 0, none⟩) 8 8) := by kernel_rfl
def pad8 (l : List Tr3) : List Tr3 := l ++ List.replicate (8 - l.length) (0, 0, 0)
theorem pad8_len {l : List Tr3} (h : l.length ≤ 8) : (pad8 l).length = 8 := by simp [pad8]; omega
theorem pad8_ok {l : List Tr3} (h : ∀ q ∈ l, QOk q) : ∀ q ∈ pad8 l, QOk q := fun q hq => (List.mem_append.1 hq).elim (h q) (holes_ok q)
/-- The nodes above some pointers. -/
def nds (below : List Tr3) (N : Nat) : List (List Nat) := (List.range N).map fun k => nodeB (pad8 ((below.drop (k * 8)).take 8))
theorem nds_succ (below : List Tr3) (N : Nat) : nds below (N + 1) = nds below N ++ [nodeB (pad8 ((below.drop (N * 8)).take 8))] := by simp [nds, List.range_succ]
theorem nds_get (below : List Tr3) {N k : Nat} (h : k < N) : (nds below N)[k]? = some (nodeB (pad8 ((below.drop (k * 8)).take 8))) := by simp [nds, h]
theorem nds_len (below : List Tr3) (N : Nat) : (nds below N).length = N := by simp [nds]
theorem take_min {α : Type} {X : List α} {n m : Nat} (h : X.length = n) : X.take (min m n) = X.take m := by
  rw [List.take_eq_take_iff, h]
  omega
theorem saveText (kk : KSave K) (B : PO h p F d m W nw M st ba) (hw : W + 1000 < 100000)  {tb toff n c : Nat} {text : List Nat} (hn1 : 1 ≤ n) (hn2 : n ≤ 65535) (T : Shows h (some ⟨tb, toff, none⟩) n 1 (natC .u8 text)) (C : CutOk Try.prog h 5 tb n c) (tF : tb ∉ F) (tl : tb < h.next) (hb : ∀ x ∈ text, x < 256)
    {pa : Option Addr} {na ca : Nat} {as' : List Nat} (S : Shows h pa na 1 (natC .i64 as')) (pF : ∀ a, pa = some a → a.block ∉ F) (hat : (n + 128 - 1) / 128 ≤ as'.length) (hM : ∀ a ∈ as', M[a]? = some 2) (hN : (n + 128 - 1) / 128 ≤ 600) :
    Wf Try.prog K 23 [.pointer (some ⟨p, 0, none⟩), .slice (some ⟨tb, toff, none⟩) n c, .slice pa na ca] h fun v h' => ∃ pp cc F', v = .tuple #[.slice pp ((n + 128 - 1) / 128) cc, .int .i64 0] ∧ PO h' p F' d m (W + (n + 128 - 1) / 128) (wr nw (as'.take ((n + 128 - 1) / 128)) (blks text ((n + 128 - 1) / 128))) M st ba ∧ Fr F h h' F' ∧
      Grow h.next h' 36 3 pp ((n + 128 - 1) / 128) cc (ptr3 (mkP st (as'.take ((n + 128 - 1) / 128)) (blks text ((n + 128 - 1) / 128)))) ∧ ∀ a, pp = some a → a.block ∉ F' := by
  have hF := B.lt
  have hna : na = as'.length := by have := S.1; rw [natC_len] at this; omega
  have hxl : text.length = n := by have := T.1; rw [natC_len] at this; omega
  refine vc_blob_saveText kk.bText _ _ _ _ _ _ _ h _ fun g0 e0 g1 e1 g2 e2 g3 e3 g4 e4 => vc_slices_Chunk___byte_byte_ kk.cB _ _ _ _ g4 _ fun g5 e5 g6 e6 => ⟨_, ld1_at (get_of_alloc e6) rfl, fun z => absurd z (by decide), fun _ => ⟨39, [.pointer (some ⟨g4.next, 0, none⟩), .pointer (some ⟨g5.next, 0, none⟩)], rfl, ?_⟩⟩
  have o0 := old_of_alloc e0
  have n0 := next_of_alloc e0
  have o1 := old_of_alloc e1
  have n1 := next_of_alloc e1
  have o2 := old_of_alloc e2
  have n2 := next_of_alloc e2
  have o3 := old_of_alloc e3
  have n3 := next_of_alloc e3
  have o4 := old_of_alloc e4
  have n4 := next_of_alloc e4
  have o5 := old_of_alloc e5
  have n5 := next_of_alloc e5
  have o6 := old_of_alloc e6
  have n6 := next_of_alloc e6
  have oh : Old h g6 := (((((o0.trans o1).trans o2).trans o3).trans o4).trans o5).trans o6
  have c0 : g6.get h.next = some (.cells [.pointer (some ⟨p, 0, none⟩)] 25 false) := by rw [o6.2 _ (by omega), o5.2 _ (by omega), o4.2 _ (by omega), o3.2 _ (by omega), o2.2 _ (by omega), o1.2 _ (by omega)]; exact get_of_alloc e0
  have c1 : g6.get g0.next = some (.cells [.slice pa na ca] 27 false) := by rw [o6.2 _ (by omega), o5.2 _ (by omega), o4.2 _ (by omega), o3.2 _ (by omega), o2.2 _ (by omega)]; exact get_of_alloc e1
  have c2 : g6.get g1.next = some (.cells [.slice none 0 0] 39 false) := by rw [o6.2 _ (by omega), o5.2 _ (by omega), o4.2 _ (by omega), o3.2 _ (by omega)]; exact get_of_alloc e2
  have c3 : g6.get g2.next = some (.cells [.int .i64 0] 28 false) := by rw [o6.2 _ (by omega), o5.2 _ (by omega), o4.2 _ (by omega)]; exact get_of_alloc e3
  have c4 : g6.get g3.next = some (.cells [.slice none 0 0] 39 false) := by rw [o6.2 _ (by omega), o5.2 _ (by omega)]; exact get_of_alloc e4
  have c5 : g6.get g4.next = _ := (o6.2 _ (by omega)).trans (get_of_alloc e5)
  have c6 := get_of_alloc e6
  have hl : h.next < g6.next ∧ g0.next < g6.next ∧ g1.next < g6.next ∧ g2.next < g6.next ∧ g3.next < g6.next ∧ g4.next + 1 < g6.next := by omega
  have ne : h.next < g0.next ∧ g0.next < g1.next ∧ g1.next < g2.next ∧ g2.next < g3.next ∧ g3.next < g4.next := by omega
  have n45 : g5.next = g4.next + 1 := n5
  refine ⟨SJ h p F d m W nw M st ba g0.next g1.next g2.next g3.next g4.next g6.next (.slice pa na ca) (.slice (some ⟨tb, toff, none⟩) n c) 128 as' (blks text ((n + 128 - 1) / 128)), fun _ _ => False, (n + 128 - 1) / 128, fun k => [.slice (some ⟨tb, toff + k * 128 * 1, none⟩) (min 128 (n - k * 128)) (min 128 (n - k * 128))], fun _ _ => False, fun _ _ => True,
    ⟨kk.cB1, rfl⟩, fun i hi => ⟨_, _, _, rfl⟩, fun h1 q1 q2 => ⟨F, none, 0, B.imp fun Fd P => P.keep (by have := oh.1; omega) fun x hx => (q2 x (by have := hF x hx; omega)).trans (oh.2 x (hF x hx)), fun x hx _ => by rw [q2 x (by omega), oh.2 x hx], fun x hx => .inl hx, by omega, (q2 _ (by omega)).trans c0, (q2 _ (by omega)).trans c1, (q2 _ (by omega)).trans c2, (q2 _ (by omega)).trans c3, (q2 _ (by omega)).trans c4, ⟨_, (q2 _ (by omega)).trans c5⟩, by rw [← n45]; exact (q2 _ (by omega)).trans c6, Grow.nil _ _ _ _, fun a e => by cases e⟩,
    fun i h1 h2 j n => j.near n hF hl, fun x h1 h2 q => q.elim, fun i h1 h2 j r => r.elim, fun x h1 h2 q => q.elim, fun h1 h2 r => r.elim, ?_, ?_, ?_, fun h1 q => q.elim, fun x h1 _ q => q.elim⟩
  · -- one part
    rintro k g14 hk J14 - p17 n18 c19 hit
    simp only [List.cons.injEq, Value.slice.injEq, and_true] at hit
    obtain ⟨rfl, rfl, rfl⟩ := hit
    refine ⟨rfl, rfl, fun g23 nr hL => ?_⟩
    have J23 := J14.near nr hF hl
    obtain ⟨F', pp, cc, j1, j2, j3, j4, j5, j6, j7, j8, j9, j10, j11, j12, j13⟩ := J23
    have hkm : k * 128 < n := by
      have := (Nat.lt_div_iff_mul_lt (show 0 < 128 by decide)).1 hk
      omega
    have hka : k < as'.length := by omega
    have hnF' : ∀ x, x < h.next → x ∉ F → x ∉ F' := fun x h1 h2 z => (j3 x z).elim h2 (fun y => by omega)
    have S23 : Shows g23 pa na 1 (natC .i64 as') := S.keep (by have := oh.1; omega) fun a e hb => j2 _ hb (pF a e)
    have T23 := T.keep (h' := g23) (by have := oh.1; omega) fun a e hb => by cases e; exact j2 _ hb tF
    have Tc := (T23.cut (lo := k * 128) (off2 := toff + k * 128 * 1) (by omega) (fun _ => rfl)).take (m := min 128 (n - k * 128)) (by omega)
    have hcell : ((natC .u8 text).drop (k * 128 * 1)).take (min 128 (n - k * 128) * 1) = natC .u8 ((text.drop (k * 128)).take 128) := by
      unfold natC
      rw [Nat.mul_one, Nat.mul_one, ← List.map_drop, ← List.map_take, take_min (by rw [List.length_drop]; omega)]
    rw [hcell] at Tc
    obtain ⟨b31, o32, rfl, hld⟩ := S23.get (i := k) (by omega)
    rw [natC_get hka] at hld
    have hMa := hM _ (List.getElem_mem hka)
    refine ⟨_, ld1_at j5 rfl, _, _, _, ld1_at j6 rfl, pp, k, cc, ld1_at j9 rfl, derefP_at ⟨by omega, by omega, _, by rw [Int.toNat_natCast, Nat.mul_one]; exact hld, ?_⟩⟩
    refine (putAtP kk j1 (by omega) hMa Tc (.inr ⟨_, _, rfl⟩) (fun x hx => hb x (List.mem_of_mem_drop (List.mem_of_mem_take hx))) (by rw [List.length_take]; omega)).mono ?_
    rintro _ g35 ⟨rfl, F'', B35, f35⟩
    refine ⟨_, _, _, _, rfl, fun g40 e40 => ?_⟩
    obtain ⟨g41, k41, n41, o41, v41⟩ := put_new e40 (vs := [.int .i64 (as'[k] : Nat), .int .u64 (st : Nat), .int .u32 (crcOf (blkOf ((text.drop (k * 128)).take 128)) : Nat)]) rfl
    have w41 := v41 F'' B35.lt
    have hlt23 : g6.next < g23.next := j4
    have nF : ∀ x, h.next ≤ x → x ≤ g6.next → x ∉ F' := fun x h1 h2 z => (j3 x z).elim (fun y => by have := hF x y; omega) (fun y => by omega)
    have l35 := f35.1
    have get41 : ∀ x, h.next ≤ x → x ≤ g6.next → g41.get x = g23.get x := fun x h1 h2 => by rw [o41.2 x (by omega), f35.2.1 x (by omega) (nF x h1 h2)]
    have G41 := (j12.frM f35 j13).old o41
    have hpp : ∀ x, pp = some x → g6.next < x.block ∧ x.block ∉ F'' := fun x e => ⟨by have := (j12.block e).1; omega, fun z => (f35.2.2 _ z).elim (j13 x e) (fun y => by have := (j12.block e).2; omega)⟩
    refine ⟨rfl, g41, k41, fun _ => ⟨pp, k, cc, ld1_at ((get41 _ (by omega) (by omega)).trans j9) rfl, _, _, _, w41.ld rfl, fun g48 e48 => ?_⟩, fun z => absurd rfl z⟩
    obtain ⟨p', c', g52, k52, G52, ob52, ap52, fr52⟩ := G41.push ePtrS (by omega) (m := 1) (ns := ptr3 [(as'[k], st, crcOf (blkOf ((text.drop (k * 128)).take 128)))]) e48 rfl (by unfold roomMax; omega) (by omega)
    obtain ⟨b', rfl, hb'⟩ := fr52 (by decide)
    rw [← ptr3_app] at G52
    have kp : Keep1' pp g41 g52 := ⟨by have := ob52.1; exact this, fun x hx ha => ap52 x hx (by
      cases hq : pp with
      | none => trivial
      | some a => exact ha a hq)⟩
    have g52a : g52.get g3.next = some (.cells [.slice pp k cc] 39 false) := by
      rw [kp.2 _ (by omega) (fun x e z => by have := (hpp x e).1; omega), get41 _ (by omega) (by omega)]
      exact j9
    have sj := SJ.next (step := 128) (st := st) (ba := ba) hF hl ne (List.getElem?_eq_getElem hka) (s := blkOf ((text.drop (k * 128)).take 128)) (SS := blks text ((n + 128 - 1) / 128)) (blks_get text hk) j2 j3 j4 j5 j6 j7 j8 j10 j11 f35 o41 (B35.old o41) kp hpp (k := k) (cc := cc) (p' := some ⟨b', 0, none⟩) (c' := c') G52 (fun x e z => by cases e; exact absurd ((B35.old o41).lt _ z) (Nat.not_lt.2 hb')) ⟨hka, by rw [blks_len]; exact hk⟩
    refine ⟨_, _, c', g52, k52, _, st1_of g52a (by simp), ?_, sj.1, fun _ _ => trivial⟩
    exact sj.2
  · -- the parts, one after the other
    intro JJ DD hJ hG hDG hround g60 hj0
    exact chunkB kk.cB1 (ya := g6.next) (pb0 := g4.next) (pb1 := g5.next) (b := tb) (off := toff) (n := n) (c := c) (m := 128) (by decide) (by omega) (JJ := JJ) (DD := DD) (BB := fun _ _ => True)
      (fun i h1 j => by
        obtain ⟨F', pp, cc, -, j2, -, j4, -, -, -, -, -, ⟨t, j10⟩, j11, -, -⟩ := hJ i h1 j
        refine ⟨⟨t, false, j10⟩, ⟨_, false, by rw [n45]; exact j11⟩, ?_⟩
        rcases C with C | ⟨z1, cs, e, ro, z2, z3⟩
        · exact .inl C
        · exact .inr ⟨z1, cs, e, ro, by rw [j2 tb tl tF]; exact z2, z3⟩)
      (fun k h1 hk j => hround k h1 hk j) hj0
  · rintro g64 ⟨F', pp, cc, j1, j2, j3, j4, j5, j6, j7, j8, j9, j10, j11, j12, j13⟩
    have dl : ∀ x, x ≠ g6.next → (g64.del g6.next).get x = g64.get x := fun x hx => by rw [AH.get_del, if_neg hx]
    have n68 := near_set g1.next (g64.del g6.next) (.cells [.slice pp ((n + 128 - 1) / 128) cc] 39 false)
    have n69 := near_set g2.next ((g64.del g6.next).set g1.next (.cells [.slice pp ((n + 128 - 1) / 128) cc] 39 false)) (.cells [.int .i64 0] 28 false)
    have nF : ∀ x, h.next ≤ x → x ≤ g6.next → x ∉ F' := fun x h1 h2 z => (j3 x z).elim (fun y => by have := hF x y; omega) (fun y => by omega)
    have l64 : (g64.del g6.next).next = g64.next := rfl
    have k68 : st1 (g64.del g6.next) g1.next 0 (.slice pp ((n + 128 - 1) / 128) cc) = some ((g64.del g6.next).set g1.next (.cells [.slice pp ((n + 128 - 1) / 128) cc] 39 false)) := st1_of ((dl _ (by omega)).trans j7) (by simp)
    have k69 : st1 ((g64.del g6.next).set g1.next (.cells [.slice pp ((n + 128 - 1) / 128) cc] 39 false)) g2.next 0 (.int .i64 0) = some (((g64.del g6.next).set g1.next (.cells [.slice pp ((n + 128 - 1) / 128) cc] 39 false)).set g2.next (.cells [.int .i64 0] 28 false)) := st1_of ((n68.2 _ (by omega)).trans ((dl _ (by omega)).trans j8)) (by simp)
    refine ⟨pp, _, cc, ld1_at ((dl _ (by omega)).trans j9) rfl, _, k68, _, k69, pp, _, cc, ld1_at ((n69.2 _ (by omega)).trans (get_set_self _ _ _)) rfl, _, ld1_at (get_set_self _ _ _) rfl, pp, cc, F', rfl, ?_, ?_, ?_, j13⟩
    · have B64 : PO (g64.del g6.next) p F' d m (W + (n + 128 - 1) / 128) (wr nw (as'.take ((n + 128 - 1) / 128)) ((blks text ((n + 128 - 1) / 128)).take ((n + 128 - 1) / 128))) M st ba := j1.imp fun Fd P => P.keep (Nat.le_refl _) fun x hx => dl x (fun e => nF g6.next (by omega) (Nat.le_refl _) (e ▸ hx))
      rw [List.take_of_length_le (l := blks text ((n + 128 - 1) / 128)) (by rw [blks_len]; exact Nat.le_refl _)] at B64
      exact (B64.nearN n68 (nF _ (by omega) (by omega))).nearN n69 (nF _ (by omega) (by omega))
    · exact ⟨by rw [n69.1, n68.1, l64]; omega, fun x hx hnx => by rw [n69.2 x (by omega), n68.2 x (by omega), dl x (by omega), j2 x hx hnx], fun x hx => (j3 x hx).imp id (fun y => by omega)⟩
    · have G64 : Grow (g6.next + 1) (g64.del g6.next) 36 3 pp ((n + 128 - 1) / 128) cc (ptr3 (mkP st (as'.take ((n + 128 - 1) / 128)) ((blks text ((n + 128 - 1) / 128)).take ((n + 128 - 1) / 128)))) := by
        refine ⟨j12.1, j12.2.imp id ?_⟩
        rintro ⟨b', q1, q2, q3, q4, q5⟩
        exact ⟨b', q1, q2, q3, by rw [dl b' (by omega)]; exact q4, q5⟩
      rw [List.take_of_length_le (l := blks text ((n + 128 - 1) / 128)) (by rw [blks_len]; exact Nat.le_refl _)] at G64
      exact (G64.near n68 (by omega) (Nat.le_refl _)).near n69 (by omega) (by omega)
theorem saveNodes (kk : KSave K) (B : PO h p F d m W nw M st ba) (hw : W + 1000 < 100000)  {tb toff n c : Nat} {below : List Tr3} (hn1 : 1 ≤ n) (hn2 : n ≤ 65535) (T : Shows h (some ⟨tb, toff, none⟩) n 3 (ptr3 below)) (C : CutOk Try.prog h 36 tb n c) (tF : tb ∉ F) (tl : tb < h.next) (hok : ∀ q ∈ below, QOk q)
    {pa : Option Addr} {na ca : Nat} {as' : List Nat} (S : Shows h pa na 1 (natC .i64 as')) (pF : ∀ a, pa = some a → a.block ∉ F) (hat : (n + 8 - 1) / 8 ≤ as'.length) (hM : ∀ a ∈ as', M[a]? = some 2) (hN : (n + 8 - 1) / 8 ≤ 600) :
    Wf Try.prog K 24 [.pointer (some ⟨p, 0, none⟩), .slice (some ⟨tb, toff, none⟩) n c, .slice pa na ca] h fun v h' => ∃ pp cc F', v = .tuple #[.slice pp ((n + 8 - 1) / 8) cc, .int .i64 0] ∧ PO h' p F' d m (W + (n + 8 - 1) / 8) (wr nw (as'.take ((n + 8 - 1) / 8)) (nds below ((n + 8 - 1) / 8))) M st ba ∧ Fr F h h' F' ∧
      Grow h.next h' 36 3 pp ((n + 8 - 1) / 8) cc (ptr3 (mkP st (as'.take ((n + 8 - 1) / 8)) (nds below ((n + 8 - 1) / 8)))) ∧ ∀ a, pp = some a → a.block ∉ F' := by
  have hF := B.lt
  have hna : na = as'.length := by have := S.1; rw [natC_len] at this; omega
  have hxl : below.length = n := by have := T.1; rw [ptr3_len] at this; omega
  refine vc_blob_saveNodes kk.bNodes _ _ _ _ _ _ _ h _ fun g0 e0 g1 e1 g2 e2 g3 e3 g4 e4 => vc_api_Ptr_ kk.cP _ _ _ _ g4 _ fun g5 e5 g6 e6 => ⟨_, ld1_at (get_of_alloc e6) rfl, fun z => absurd z (by decide), fun _ => ⟨43, [.pointer (some ⟨g4.next, 0, none⟩), .pointer (some ⟨g5.next, 0, none⟩)], rfl, ?_⟩⟩
  have o0 := old_of_alloc e0
  have n0 := next_of_alloc e0
  have o1 := old_of_alloc e1
  have n1 := next_of_alloc e1
  have o2 := old_of_alloc e2
  have n2 := next_of_alloc e2
  have o3 := old_of_alloc e3
  have n3 := next_of_alloc e3
  have o4 := old_of_alloc e4
  have n4 := next_of_alloc e4
  have o5 := old_of_alloc e5
  have n5 := next_of_alloc e5
  have o6 := old_of_alloc e6
  have n6 := next_of_alloc e6
  have oh : Old h g6 := (((((o0.trans o1).trans o2).trans o3).trans o4).trans o5).trans o6
  have c0 : g6.get h.next = some (.cells [.pointer (some ⟨p, 0, none⟩)] 25 false) := by rw [o6.2 _ (by omega), o5.2 _ (by omega), o4.2 _ (by omega), o3.2 _ (by omega), o2.2 _ (by omega), o1.2 _ (by omega)]; exact get_of_alloc e0
  have c1 : g6.get g0.next = some (.cells [.slice pa na ca] 27 false) := by rw [o6.2 _ (by omega), o5.2 _ (by omega), o4.2 _ (by omega), o3.2 _ (by omega), o2.2 _ (by omega)]; exact get_of_alloc e1
  have c2 : g6.get g1.next = some (.cells [.slice none 0 0] 39 false) := by rw [o6.2 _ (by omega), o5.2 _ (by omega), o4.2 _ (by omega), o3.2 _ (by omega)]; exact get_of_alloc e2
  have c3 : g6.get g2.next = some (.cells [.int .i64 0] 28 false) := by rw [o6.2 _ (by omega), o5.2 _ (by omega), o4.2 _ (by omega)]; exact get_of_alloc e3
  have c4 : g6.get g3.next = some (.cells [.slice none 0 0] 39 false) := by rw [o6.2 _ (by omega), o5.2 _ (by omega)]; exact get_of_alloc e4
  have c5 : g6.get g4.next = _ := (o6.2 _ (by omega)).trans (get_of_alloc e5)
  have c6 := get_of_alloc e6
  have hl : h.next < g6.next ∧ g0.next < g6.next ∧ g1.next < g6.next ∧ g2.next < g6.next ∧ g3.next < g6.next ∧ g4.next + 1 < g6.next := by omega
  have ne : h.next < g0.next ∧ g0.next < g1.next ∧ g1.next < g2.next ∧ g2.next < g3.next ∧ g3.next < g4.next := by omega
  have n45 : g5.next = g4.next + 1 := n5
  refine ⟨SJ h p F d m W nw M st ba g0.next g1.next g2.next g3.next g4.next g6.next (.slice pa na ca) (.slice (some ⟨tb, toff, none⟩) n c) 8 as' (nds below ((n + 8 - 1) / 8)), fun _ _ => False, (n + 8 - 1) / 8, fun k => [.slice (some ⟨tb, toff + k * 8 * 3, none⟩) (min 8 (n - k * 8)) (min 8 (n - k * 8))], fun _ _ => False, fun _ _ => True,
    ⟨kk.cP1, rfl⟩, fun i hi => ⟨_, _, _, rfl⟩, fun h1 q1 q2 => ⟨F, none, 0, B.imp fun Fd P => P.keep (by have := oh.1; omega) fun x hx => (q2 x (by have := hF x hx; omega)).trans (oh.2 x (hF x hx)), fun x hx _ => by rw [q2 x (by omega), oh.2 x hx], fun x hx => .inl hx, by omega, (q2 _ (by omega)).trans c0, (q2 _ (by omega)).trans c1, (q2 _ (by omega)).trans c2, (q2 _ (by omega)).trans c3, (q2 _ (by omega)).trans c4, ⟨_, (q2 _ (by omega)).trans c5⟩, by rw [← n45]; exact (q2 _ (by omega)).trans c6, Grow.nil _ _ _ _, fun a e => by cases e⟩,
    fun i h1 h2 j n => j.near n hF hl, fun x h1 h2 q => q.elim, fun i h1 h2 j r => r.elim, fun x h1 h2 q => q.elim, fun h1 h2 r => r.elim, ?_, ?_, ?_, fun h1 q => q.elim, fun x h1 _ q => q.elim⟩
  · -- one part
    rintro k g14 hk J14 - p17 n18 c19 hit
    simp only [List.cons.injEq, Value.slice.injEq, and_true] at hit
    obtain ⟨rfl, rfl, rfl⟩ := hit
    refine ⟨rfl, rfl, fun g23 nr hL => ?_⟩
    have J23 := J14.near nr hF hl
    obtain ⟨F', pp, cc, j1, j2, j3, j4, j5, j6, j7, j8, j9, j10, j11, j12, j13⟩ := J23
    have hkm : k * 8 < n := by
      have := (Nat.lt_div_iff_mul_lt (show 0 < 8 by decide)).1 hk
      omega
    have hka : k < as'.length := by omega
    have hnF' : ∀ x, x < h.next → x ∉ F → x ∉ F' := fun x h1 h2 z => (j3 x z).elim h2 (fun y => by omega)
    have S23 : Shows g23 pa na 1 (natC .i64 as') := S.keep (by have := oh.1; omega) fun a e hb => j2 _ hb (pF a e)
    have T23 := T.keep (h' := g23) (by have := oh.1; omega) fun a e hb => by cases e; exact j2 _ hb tF
    have Tc := (T23.cut (lo := k * 8) (off2 := toff + k * 8 * 3) (by omega) (fun _ => rfl)).take (m := min 8 (n - k * 8)) (by omega)
    have hcell : ((ptr3 below).drop (k * 8 * 3)).take (min 8 (n - k * 8) * 3) = ptr3 ((below.drop (k * 8)).take 8) := by
      rw [ptr3_drop, ptr3_take, take_min (by rw [List.length_drop]; omega)]
    rw [hcell] at Tc
    have hpl : ((below.drop (k * 8)).take 8).length ≤ 8 := by rw [List.length_take]; omega
    have hp0 : ((below.drop (k * 8)).take 8).length = min 8 (n - k * 8) := by rw [List.length_take, List.length_drop]; omega
    have hpo : ∀ q ∈ (below.drop (k * 8)).take 8, QOk q := fun q hq => hok q (List.mem_of_mem_drop (List.mem_of_mem_take hq))
    generalize hpart : (below.drop (k * 8)).take 8 = part at Tc hpl hp0 hpo hcell
    intro g24 e24
    have o24 := old_of_alloc e24
    have n24 := next_of_alloc e24
    have c24 : g24.get g23.next = some (.cells (ptr3 (List.replicate 8 (0, 0, 0))) 91 false) := get_of_alloc e24
    have hz24 : (ptr3 (List.replicate 8 ((0, 0, 0) : Tr3))).length = 24 := by rw [ptr3_len]; rfl
    obtain ⟨g29, k29, nr29, c29⟩ := copy_all (c := 8) (c' := min 8 (n - k * 8)) ePtrS c24 (Tc.old o24) (.inr ⟨_, _, rfl⟩) (by omega) (show min 8 (n - k * 8) ≤ 8 by omega) (by rw [hz24]; decide) 39
    have hpad : ptr3 part ++ (ptr3 (List.replicate 8 ((0, 0, 0) : Tr3))).drop (ptr3 part).length = ptr3 (pad8 part) := by
      rw [ptr3_len, ptr3_drop, List.drop_replicate, ← ptr3_app]
      rfl
    rw [hpad] at c29
    have hp8 := pad8_len hpl
    have hpd := pad8_ok hpo
    have hl24 : (ptr3 (pad8 part)).length = 24 := by rw [ptr3_len, hp8]
    refine ⟨_, _, _, sliceNode _ _, _, g29, k29, _, ldN_all c29 hl24, (nodeBytes kk.nBytes kk.qBytes kk.qRight kk.qWidths kk.fPut kk.fRoom hp8 hpd).mono ?_⟩
    rintro _ g32 ⟨rfl, o32⟩
    have hsec := nodeB_sec hp8
    have hls := secC_len hsec
    refine ⟨_, _, rfl, fun g35' e35' => ?_⟩
    obtain ⟨g36, k36, n36, o36, v36⟩ := put_new e35' (vs := secC (nodeB (pad8 part))) (by rw [hls]; simp)
    have o29 : Old g23 g29 := ⟨by rw [nr29.1, n24]; omega, fun x hx => by rw [nr29.2 x (by omega), o24.2 x hx]⟩
    have o23 : Old g23 g36 := o29.trans (o32.trans o36)
    have w36 := v36 F' (by
      have hlt := j1.lt
      intro x hx
      have := hlt x hx
      have := nr29.1
      have := o32.1
      omega)
    have B36 := j1.old o23
    have S36 : Shows g36 (some ⟨g32.next, 0, none⟩) 128 1 (natC .u8 (nodeB (pad8 part))) := ⟨hls, .inr ⟨_, 0, _, _, _, rfl, w36.2.1, w36.1, by rw [hls]; decide, by rw [List.drop_zero, List.take_of_length_le (by rw [hls]; decide)]; rfl⟩⟩
    obtain ⟨b31, o32', rfl, hld⟩ := (S23.old o23).get (i := k) (by omega)
    rw [natC_get hka] at hld
    have hMa := hM _ (List.getElem_mem hka)
    have hlt23 : g6.next < g23.next := j4
    refine ⟨hls, g36, k36, fun _ => ⟨_, ld1_at ((o23.2 _ (by omega)).trans j5) rfl, _, _, _, ld1_at ((o23.2 _ (by omega)).trans j6) rfl, pp, k, cc, ld1_at ((o23.2 _ (by omega)).trans j9) rfl, derefP_at ⟨by omega, by omega, _, by rw [Int.toNat_natCast, Nat.mul_one]; exact hld, _, _, _, sliceSec _ _, ?_⟩⟩, fun z => absurd rfl z⟩
    refine (putAtP kk B36 (by omega) hMa S36 (.inr ⟨_, _, rfl⟩) hsec.2 (Nat.le_of_eq hsec.1)).mono ?_
    rintro _ g35 ⟨rfl, F'', B35, f35a⟩
    have ebl : blkOf (nodeB (pad8 part)) = nodeB (pad8 part) := by unfold blkOf; rw [hsec.1]; simp
    rw [ebl] at B35
    rw [ebl]
    have f35 : Fr F' g23 g35 F'' := (o23.fr F').trans f35a
    refine ⟨_, _, _, _, rfl, fun g40 e40 => ?_⟩
    obtain ⟨g41, k41, n41, o41, v41⟩ := put_new e40 (vs := [.int .i64 (as'[k] : Nat), .int .u64 (st : Nat), .int .u32 (crcOf (nodeB (pad8 part)) : Nat)]) rfl
    have w41 := v41 F'' B35.lt
    have hlt23 : g6.next < g23.next := j4
    have nF : ∀ x, h.next ≤ x → x ≤ g6.next → x ∉ F' := fun x h1 h2 z => (j3 x z).elim (fun y => by have := hF x y; omega) (fun y => by omega)
    have l35 := f35.1
    have get41 : ∀ x, h.next ≤ x → x ≤ g6.next → g41.get x = g23.get x := fun x h1 h2 => by rw [o41.2 x (by omega), f35.2.1 x (by omega) (nF x h1 h2)]
    have G41 := (j12.frM f35 j13).old o41
    have hpp : ∀ x, pp = some x → g6.next < x.block ∧ x.block ∉ F'' := fun x e => ⟨by have := (j12.block e).1; omega, fun z => (f35.2.2 _ z).elim (j13 x e) (fun y => by have := (j12.block e).2; omega)⟩
    refine ⟨rfl, g41, k41, fun _ => ⟨pp, k, cc, ld1_at ((get41 _ (by omega) (by omega)).trans j9) rfl, _, _, _, w41.ld rfl, fun g48 e48 => ?_⟩, fun z => absurd rfl z⟩
    obtain ⟨p', c', g52, k52, G52, ob52, ap52, fr52⟩ := G41.push ePtrS (by omega) (m := 1) (ns := ptr3 [(as'[k], st, crcOf (nodeB (pad8 part)))]) e48 rfl (by unfold roomMax; omega) (by omega)
    obtain ⟨b', rfl, hb'⟩ := fr52 (by decide)
    rw [← ptr3_app] at G52
    have kp : Keep1' pp g41 g52 := ⟨by have := ob52.1; exact this, fun x hx ha => ap52 x hx (by
      cases hq : pp with
      | none => trivial
      | some a => exact ha a hq)⟩
    have g52a : g52.get g3.next = some (.cells [.slice pp k cc] 39 false) := by
      rw [kp.2 _ (by omega) (fun x e z => by have := (hpp x e).1; omega), get41 _ (by omega) (by omega)]
      exact j9
    have sj := SJ.next (step := 8) (st := st) (ba := ba) hF hl ne (List.getElem?_eq_getElem hka) (s := nodeB (pad8 part)) (SS := nds below ((n + 8 - 1) / 8)) (by rw [nds_get below hk, hpart]) j2 j3 j4 j5 j6 j7 j8 j10 j11 f35 o41 (B35.old o41) kp hpp (k := k) (cc := cc) (p' := some ⟨b', 0, none⟩) (c' := c') G52 (fun x e z => by cases e; exact absurd ((B35.old o41).lt _ z) (Nat.not_lt.2 hb')) ⟨hka, by rw [nds_len]; exact hk⟩
    refine ⟨_, _, c', g52, k52, _, st1_of g52a (by simp), ?_, sj.1, fun _ _ => trivial⟩
    exact sj.2
  · -- the parts, one after the other
    intro JJ DD hJ hG hDG hround g60 hj0
    exact chunkP kk.cP1 (ya := g6.next) (pb0 := g4.next) (pb1 := g5.next) (b := tb) (off := toff) (n := n) (c := c) (m := 8) (by decide) (by omega) (JJ := JJ) (DD := DD) (BB := fun _ _ => True)
      (fun i h1 j => by
        obtain ⟨F', pp, cc, -, j2, -, j4, -, -, -, -, -, ⟨t, j10⟩, j11, -, -⟩ := hJ i h1 j
        refine ⟨⟨t, false, j10⟩, ⟨_, false, by rw [n45]; exact j11⟩, ?_⟩
        rcases C with C | ⟨z1, cs, e, ro, z2, z3⟩
        · exact .inl C
        · exact .inr ⟨z1, cs, e, ro, by rw [j2 tb tl tF]; exact z2, z3⟩)
      (fun k h1 hk j => hround k h1 hk j) hj0
  · rintro g64 ⟨F', pp, cc, j1, j2, j3, j4, j5, j6, j7, j8, j9, j10, j11, j12, j13⟩
    have dl : ∀ x, x ≠ g6.next → (g64.del g6.next).get x = g64.get x := fun x hx => by rw [AH.get_del, if_neg hx]
    have n68 := near_set g1.next (g64.del g6.next) (.cells [.slice pp ((n + 8 - 1) / 8) cc] 39 false)
    have n69 := near_set g2.next ((g64.del g6.next).set g1.next (.cells [.slice pp ((n + 8 - 1) / 8) cc] 39 false)) (.cells [.int .i64 0] 28 false)
    have nF : ∀ x, h.next ≤ x → x ≤ g6.next → x ∉ F' := fun x h1 h2 z => (j3 x z).elim (fun y => by have := hF x y; omega) (fun y => by omega)
    have l64 : (g64.del g6.next).next = g64.next := rfl
    have k68 : st1 (g64.del g6.next) g1.next 0 (.slice pp ((n + 8 - 1) / 8) cc) = some ((g64.del g6.next).set g1.next (.cells [.slice pp ((n + 8 - 1) / 8) cc] 39 false)) := st1_of ((dl _ (by omega)).trans j7) (by simp)
    have k69 : st1 ((g64.del g6.next).set g1.next (.cells [.slice pp ((n + 8 - 1) / 8) cc] 39 false)) g2.next 0 (.int .i64 0) = some (((g64.del g6.next).set g1.next (.cells [.slice pp ((n + 8 - 1) / 8) cc] 39 false)).set g2.next (.cells [.int .i64 0] 28 false)) := st1_of ((n68.2 _ (by omega)).trans ((dl _ (by omega)).trans j8)) (by simp)
    refine ⟨pp, _, cc, ld1_at ((dl _ (by omega)).trans j9) rfl, _, k68, _, k69, pp, _, cc, ld1_at ((n69.2 _ (by omega)).trans (get_set_self _ _ _)) rfl, _, ld1_at (get_set_self _ _ _) rfl, pp, cc, F', rfl, ?_, ?_, ?_, j13⟩
    · have B64 : PO (g64.del g6.next) p F' d m (W + (n + 8 - 1) / 8) (wr nw (as'.take ((n + 8 - 1) / 8)) ((nds below ((n + 8 - 1) / 8)).take ((n + 8 - 1) / 8))) M st ba := j1.imp fun Fd P => P.keep (Nat.le_refl _) fun x hx => dl x (fun e => nF g6.next (by omega) (Nat.le_refl _) (e ▸ hx))
      rw [List.take_of_length_le (l := nds below ((n + 8 - 1) / 8)) (by rw [nds_len]; exact Nat.le_refl _)] at B64
      exact (B64.nearN n68 (nF _ (by omega) (by omega))).nearN n69 (nF _ (by omega) (by omega))
    · exact ⟨by rw [n69.1, n68.1, l64]; omega, fun x hx hnx => by rw [n69.2 x (by omega), n68.2 x (by omega), dl x (by omega), j2 x hx hnx], fun x hx => (j3 x hx).imp id (fun y => by omega)⟩
    · have G64 : Grow (g6.next + 1) (g64.del g6.next) 36 3 pp ((n + 8 - 1) / 8) cc (ptr3 (mkP st (as'.take ((n + 8 - 1) / 8)) ((nds below ((n + 8 - 1) / 8)).take ((n + 8 - 1) / 8)))) := by
        refine ⟨j12.1, j12.2.imp id ?_⟩
        rintro ⟨b', q1, q2, q3, q4, q5⟩
        exact ⟨b', q1, q2, q3, by rw [dl b' (by omega)]; exact q4, q5⟩
      rw [List.take_of_length_le (l := nds below ((n + 8 - 1) / 8)) (by rw [nds_len]; exact Nat.le_refl _)] at G64
      exact (G64.near n68 (by omega) (Nat.le_refl _)).near n69 (by omega) (by omega)
end
end Go.Am
