/-
  Each operation of the abstract machine is met by the model's: maps, lengths, least and greatest.
-/
import Derived.Test.YtkggibodlljkcaiGreatAm2h
set_option linter.unusedVariables false
set_option linter.unusedSimpArgs false
namespace Go.Am
variable {P : Program} {φ φ' : Fi} {h h' : AH} {w w' : World}

theorem ER.length : ∀ {xs ys : List MapEntry}, ER φ xs ys → xs.length = ys.length
  | [], [], _ => rfl
  | _ :: _, _ :: _, r => by simp [ER.length r.2.2.2]
theorem ER.at : ∀ {xs ys : List MapEntry}, ER φ xs ys → ∀ (i : Nat) (e : MapEntry), xs[i]? = some e → ∃ e', ys[i]? = some e' ∧ VR φ e.key e'.key ∧ VR φ e.val e'.val ∧ e.born = e'.born
  | [], [], _, i, e, h => by simp at h
  | _ :: _, y :: _, r, 0, e, h => by simp at h; subst h; exact ⟨y, rfl, r.1, r.2.1, r.2.2.1⟩
  | _ :: _, _ :: _, r, i + 1, e, h => by simp at h; simpa using ER.at r.2.2.2 i e h
theorem ER.append : ∀ {xs ys us vs : List MapEntry}, ER φ xs ys → ER φ us vs → ER φ (xs ++ us) (ys ++ vs)
  | [], [], _, _, _, k => k
  | _ :: _, _ :: _, _, _, r, k => ⟨r.1, r.2.1, r.2.2.1, ER.append r.2.2.2 k⟩
theorem ER.modify : ∀ {xs ys : List MapEntry} (i : Nat) {k k' v v' : Value}, ER φ xs ys → VR φ k k' → VR φ v v' → ER φ (xs.modify i fun e => { e with key := k, val := v }) (ys.modify i fun e => { e with key := k', val := v' })
  | [], [], _, _, _, _, _, _, _, _ => by simp [ER]
  | _ :: _, _ :: _, 0, _, _, _, _, r, hk, hv => ⟨hk, hv, r.2.2.1, r.2.2.2⟩
  | _ :: _, _ :: _, i + 1, _, _, _, _, r, hk, hv => ⟨r.1, r.2.1, r.2.2.1, ER.modify i r.2.2.2 hk hv⟩
theorem ER.eraseIdx : ∀ {xs ys : List MapEntry} (i : Nat), ER φ xs ys → ER φ (xs.eraseIdx i) (ys.eraseIdx i)
  | [], [], _, _ => by simp [ER]
  | _ :: _, _ :: _, 0, r => r.2.2.2
  | _ :: _, _ :: _, i + 1, r => ⟨r.1, r.2.1, r.2.2.1, ER.eraseIdx i r.2.2.2⟩

/-- Both find the same, or both nothing. -/
def FoundR (P : Program) (φ : Fi) (kt : TypeId) (la : List Lit) (es : List MapEntry) (i : Nat) : Option (Nat × Value) → Option (Nat × Value) → Prop
  | none, none => True
  | some (j, v), some (j', v') => j = j' ∧ VR φ v v' ∧ i ≤ j ∧ (∃ e, es[j - i]? = some e ∧ e.val = v ∧ keyA P kt e.key = some la)
  | _, _ => False
theorem FoundR.cons {kt : TypeId} {la : List Lit} {e : MapEntry} {es : List MapEntry} {i : Nat} {o o' : Option (Nat × Value)} (h : FoundR P φ kt la es (i + 1) o o') : FoundR P φ kt la (e :: es) i o o' := by
  cases o <;> cases o' <;> try exact h
  rename_i p p'
  obtain ⟨g1, g2, g3, g4, g5⟩ := h
  refine ⟨g1, g2, by omega, g4, ?_⟩
  have : p.1 - i = (p.1 - (i + 1)) + 1 := by omega
  rw [this]
  simpa using g5
/-- What the machine finds, the model finds. -/
theorem findAsking_sound {kt : TypeId} (hk : P.keyTypeAt 40 kt = true) {k k' : Value} {la : List Lit} (ha : keyA P kt k = some la) (rk : VR φ k k') (w : World) :
    ∀ (es es' : List MapEntry) (i : Nat) (o : Option (Nat × Value)), ER φ es es' → findA P kt la es i = some o →
      ∃ o', (Instr.findAsking kt k' es' i).run P w = .ok o' w ∧ FoundR P φ kt la es i o o'
  | [], [], i, o, _, hf => by
    simp only [findA, Option.some.injEq] at hf
    subst hf
    exact ⟨none, by simp [Instr.findAsking], trivial⟩
  | e :: es, e' :: es', i, o, r, hf => by
    unfold findA at hf
    cases hb : keyA P kt e.key with
    | none => simp [hb] at hf
    | some lb =>
      simp only [hb] at hf
      have heq := keyA_eq hk ha hb rk r.1 w
      cases hl : litsEq la lb with
      | true =>
        simp only [hl, cond_true, Option.some.injEq] at hf
        subst hf
        have : la = lb := (litsEq_iff la lb).1 hl
        subst this
        exact ⟨some (i, e'.val), by simp [Instr.findAsking, heq, hl], rfl, r.2.1, Nat.le_refl _, e, by simp, rfl, hb⟩
      | false =>
        simp only [hl, cond_false] at hf
        obtain ⟨o', h1, h2⟩ := findAsking_sound hk ha rk w es es' (i + 1) o r.2.2.2 hf
        exact ⟨o', by simp [Instr.findAsking, heq, hl, h1], h2.cons⟩
theorem sameNow_of {kt : TypeId} {d : TypeDesc} (hu : P.underlying kt = some d) {x y : Value} {la lb : List Lit} (hx : P.keyLits 40 kt x.cells.toList = some la) (hy : P.keyLits 40 kt y.cells.toList = some lb) (fx : x.formed P kt = true) (fy : y.formed P kt = true) :
    Instr.sameNow d x y = none ∨ Instr.sameNow d x y = some (litsEq la lb) := by
  unfold Program.keyLits at hx hy
  simp only [hu] at hx hy
  cases x <;> cases y <;> first | exact .inl rfl | skip
  all_goals (cases d <;> first | exact .inl rfl | skip)
  all_goals (simp only [Value.cells, Array.toList] at hx hy)
  case bool.bool.bool a b =>
    simp only [Option.some.injEq] at hx hy
    subst hx hy
    right
    simp [Instr.sameNow, litsEq, litEq]
  case int.int.int j a k b q =>
    split at hx
    · split at hy
      · simp only [Option.some.injEq] at hx hy
        rename_i g1 g2
        subst hx hy
        right
        simp [Instr.sameNow, litsEq, litEq, g1.1, g2.1]
      · simp at hy
    · simp at hx
  case string.string.string a b =>
    split at hx
    · split at hy
      · simp only [Option.some.injEq] at hx hy
        subst hx hy
        right
        simp only [Instr.sameNow, litsEq, litEq, Bool.and_true, Option.some.injEq]
        obtain ⟨⟨x⟩⟩ := a
        obtain ⟨⟨y⟩⟩ := b
        show ((⟨x⟩ : Array UInt8) == ⟨y⟩) = (x == y)
        simp
      · simp at hy
    · simp at hx
theorem findNow_sound {kt : TypeId} {d : TypeDesc} (hu : P.underlying kt = some d) {k k' : Value} {la : List Lit} (ha : keyA P kt k = some la) (rk : VR φ k k') :
    ∀ (es es' : List MapEntry) (i : Nat) (o : Option (Nat × Value)), ER φ es es' → findA P kt la es i = some o →
      Instr.findNow d k' es' i = none ∨ ∃ o', Instr.findNow d k' es' i = some o' ∧ FoundR P φ kt la es i o o'
  | [], [], i, o, _, hf => by
    simp only [findA, Option.some.injEq] at hf
    subst hf
    exact .inr ⟨none, rfl, trivial⟩
  | e :: es, e' :: es', i, o, r, hf => by
    unfold findA at hf
    cases hb : keyA P kt e.key with
    | none => simp [hb] at hf
    | some lb =>
      simp only [hb] at hf
      obtain ⟨f1, _, k1, _⟩ := keyA_VR ha rk
      obtain ⟨f2, _, k2, _⟩ := keyA_VR hb r.1
      rcases sameNow_of hu k1 k2 f1 f2 with hs | hs
      · left
        simp [Instr.findNow, hs]
      · cases hl : litsEq la lb with
        | true =>
          simp only [hl, cond_true, Option.some.injEq] at hf
          subst hf
          have : la = lb := (litsEq_iff la lb).1 hl
          subst this
          right
          exact ⟨some (i, e'.val), by simp [Instr.findNow, hs, hl], rfl, r.2.1, Nat.le_refl _, e, by simp, rfl, hb⟩
        | false =>
          simp only [hl, cond_false] at hf
          rcases findNow_sound hu ha rk es es' (i + 1) o r.2.2.2 hf with h1 | ⟨o', h1, h2⟩
          · left; simp [Instr.findNow, hs, hl, h1]
          · right
            exact ⟨o', by simp [Instr.findNow, hs, hl, h1], h2.cons⟩
theorem findKey_sound {kt : TypeId} (hk : P.keyTypeAt 40 kt = true) {k k' : Value} {la : List Lit} (ha : keyA P kt k = some la) (rk : VR φ k k') (w : World) {es es' : List MapEntry} {o : Option (Nat × Value)} (r : ER φ es es') (hf : findA P kt la es 0 = some o) :
    ∃ o', (Instr.findKey kt k' es').run P w = .ok o' w ∧ FoundR P φ kt la es 0 o o' := by
  obtain ⟨d, hu⟩ : ∃ d, P.underlying kt = some d := by
    unfold Program.keyTypeAt at hk
    cases hd : P.underlying kt with
    | none => simp [hd] at hk
    | some d => exact ⟨d, rfl⟩
  rcases findNow_sound hu ha rk es es' 0 o r hf with h1 | ⟨o', h1, h2⟩
  · obtain ⟨o', h3, h4⟩ := findAsking_sound hk ha rk w es es' 0 o r hf
    exact ⟨o', by simp [Instr.findKey, underlying_run hu, h1, h3], h4⟩
  · exact ⟨o', by simp [Instr.findKey, underlying_run hu, h1], h2⟩

theorem checkKey_run {kt : TypeId} (hk : P.keyTypeAt 40 kt = true) {k k' : Value} {la : List Lit} (ha : keyA P kt k = some la) (rk : VR φ k k') (em : Bool) (w : World) : (Instr.checkKey em 10000 kt k').run P w = .ok () w := by
  obtain ⟨f1, _, k1, _⟩ := keyA_VR ha rk
  exact run_checkKey_deep (P := P) em 9960 40 kt hk w 40 k' la f1 k1

theorem R.map (r : R P φ h w) {b : Nat} {es : List MapEntry} {c : Nat} {rc : Rec} (hb : h.get b = some (.map es c)) (hφ : φ b = some rc) : ∃ es', w.heap[rc.blk]? = some (.map es' c) ∧ ER φ es es'.toList := by
  obtain ⟨o', ho, hr⟩ := r.obj b _ rc hb hφ
  cases o' <;> simp only [OR] at hr
  obtain ⟨rfl, he⟩ := hr
  exact ⟨_, ho, he⟩
theorem getObj_run {r : Nat} {o : Obj} (ho : w.heap[r]? = some o) (hc : ∀ c e f, o ≠ .cells c e f) : (getObj r).run P w = .ok o w := by
  cases o <;> first | (exact absurd rfl (hc _ _ _)) | (simp only [getObj, Sem.run, ho]; done) | (simp only [getObj, Sem.run, ho]; rfl)
theorem setObj_run {r : Nat} {o o2 : Obj} (ho : w.heap[r]? = some o) (hc : ∀ c e f, o ≠ .cells c e f) : (setObj r o2).run P w = .ok () { w with heap := w.heap.setIfInBounds r o2 } := by
  cases o <;> first | (exact absurd rfl (hc _ _ _)) | (simp only [setObj, Sem.run, ho]; done) | (simp only [setObj, Sem.run, ho]; rfl)

theorem zeroVal_lt {t : TypeId} {z : Value} (hz : zeroVal P t = some z) : t < P.types.size := by
  unfold zeroVal at hz
  cases hb : Nat.blt t P.types.size with
  | true => exact Nat.blt_eq.mp hb
  | false => rw [hb] at hz; simp at hz
theorem zeroVal_info {t : TypeId} {z : Value} (hz : zeroVal P t = some z) : ∃ i, P.info? t = some i ∧ i.zero = some z ∧ ∀ xs, z ≠ .tuple xs := by
  have hlt := zeroVal_lt hz
  unfold zeroVal at hz
  rw [Nat.blt_eq.mpr hlt, cond_true] at hz
  split at hz
  · rename_i i hi
    split at hz
    · simp at hz
    · rename_i z0 hne hz0
      simp only [Option.some.injEq] at hz
      subst hz
      exact ⟨i, hi, hz0, fun xs e => hne xs e⟩
    · simp at hz
  · simp at hz
theorem zeroVal_VR (G : Good P) {t : TypeId} {z : Value} (hz : zeroVal P t = some z) : VR φ z z := by
  obtain ⟨i, hi, hz0, hne⟩ := zeroVal_info hz
  have := G.zero t i z (zeroVal_lt hz) hi hz0
  unfold zeroOk at this
  split at this
  · exact absurd rfl (hne _)
  · have hl := plain_LR (φ := φ) this
    cases z with
    | agg xs => exact LR.agg hl
    | tuple xs => exact absurd rfl (hne _)
    | _ => exact hl.1

theorem lookup_sound (G : Good P) (r : R P φ h w) {t : TypeId} {m m' k k' u : Value} {ok : Bool} (hs : aLookup P h t m k ok = some u) (hm : VR φ m m') (hk : VR φ k k') :
    ∃ u', (Instr.lookup t m' k' ok).run P w = .ok u' w ∧ VR φ u u' := by
  unfold aLookup at hs
  split at hs
  rotate_left
  · simp at hs
  rename_i kt et hu
  split at hs
  rotate_left
  · simp at hs
  rename_i la z hkt ha hz
  simp only [keyT, Bool.and_eq_true] at hkt
  obtain ⟨i, hi, hz0, hne⟩ := zeroVal_info hz
  have hzr := zero_run (P := P) hi hz0
  have hzv := zeroVal_VR (φ := φ) G hz
  have two : ∀ (v v' : Value) (b : Bool), VR φ v v' → VR φ (cond ok (.tuple #[v, .bool b]) v) (if ok = true then .tuple #[v', .bool b] else v') := by
    intro v v' b hv
    cases ok
    · simpa using hv
    · simp only [cond_true, if_true]
      exact AR.tuple ⟨hv, .bool b, trivial⟩
  split at hs
  · simp only [Option.some.injEq] at hs
    subst hs
    cases hm
    refine ⟨_, ?_, two z z false hzv⟩
    have hc := checkKey_run (P := P) hkt.1 ha hk true w
    have hf : (Instr.findKey kt k' []).run P w = .ok none w := by
      obtain ⟨o', h1, h2⟩ := findKey_sound (P := P) (φ := φ) hkt.1 ha hk w (es := []) (es' := []) (o := none) trivial rfl
      cases o' with
      | none => exact h1
      | some _ => exact h2.elim
    simp [Instr.lookup, underlying_run hu, hc, hf, hzr]
  · rename_i b
    split at hs
    rotate_left
    · simp at hs
    rename_i es clock hb
    cases hm with
    | map hφ =>
      rename_i rc
      obtain ⟨es', ho, he⟩ := r.map hb hφ
      have hg := getObj_run (P := P) ho (by intro _ _ _ q; cases q)
      have hc := checkKey_run (P := P) hkt.1 ha hk es'.isEmpty w
      split at hs
      · rename_i j v hf
        simp only [Option.some.injEq] at hs
        subst hs
        obtain ⟨o', h1, h2⟩ := findKey_sound (P := P) hkt.1 ha hk w he hf
        cases o' with
        | none => exact h2.elim
        | some p =>
          refine ⟨_, ?_, two v p.2 true h2.2.1⟩
          simp [Instr.lookup, underlying_run hu, hg, hc, h1]
      · rename_i hf
        simp only [Option.some.injEq] at hs
        subst hs
        obtain ⟨o', h1, h2⟩ := findKey_sound (P := P) hkt.1 ha hk w he hf
        cases o' with
        | some _ => exact h2.elim
        | none =>
          refine ⟨_, ?_, two z z false hzv⟩
          simp [Instr.lookup, underlying_run hu, hg, hc, h1, hzr]
      · simp at hs
  · simp at hs

/-- Two keys that read alike are alike. -/
theorem key_same {kt : TypeId} (ht : P.tiled 40 kt = true) {a b a' b' : Value} {la : List Lit} (ha : keyA P kt a = some la) (hb : keyA P kt b = some la) (ra : VR φ a a') (rb : VR φ b b') : a' = b' := by
  obtain ⟨f1, _, k1, _⟩ := keyA_VR ha ra
  obtain ⟨f2, _, k2, _⟩ := keyA_VR hb rb
  have e1 := cells_of_lits 40 kt ht 40 _ la k1
  have e2 := cells_of_lits 40 kt ht 40 _ la k2
  have e : a'.cells = b'.cells := by
    apply Array.ext'
    rw [e1, e2]
  unfold Value.formed at f1 f2
  cases a' <;> cases b' <;> simp [Value.cells] at e ⊢ <;> first | exact e | (simp at f1; done) | (simp at f2; done) | skip
  all_goals (first | (subst e; simp at f1 f2; split at f2 <;> simp_all) | (simp_all; done) | skip)

theorem mapUpdate_sound (r : R P φ h w) {t : TypeId} {m m' k k' v v' : Value} {h' : AH} (hs : aMapUpdate P h t m k v = some h') (hm : VR φ m m') (hk : VR φ k k') (hv : VR φ v v') :
    ∃ w', (Instr.mapUpdate t m' k' v').run P w = .ok () w' ∧ Tn P φ h w φ h' w' := by
  unfold aMapUpdate at hs
  split at hs
  rotate_left
  · simp at hs
  rename_i kt et b hu
  split at hs
  rotate_left
  · simp at hs
  rename_i la es clock hkt ha hb
  simp only [keyT, Bool.and_eq_true] at hkt
  cases hm with
  | map hφ =>
    rename_i rc
    obtain ⟨es', ho, he⟩ := r.map hb hφ
    have hg := getObj_run (P := P) ho (by intro _ _ _ q; cases q)
    have hc := checkKey_run (P := P) hkt.1 ha hk false w
    split at hs
    · rename_i j u hf
      simp only [Option.some.injEq] at hs
      subst hs
      obtain ⟨o', h1, h2⟩ := findKey_sound (P := P) hkt.1 ha hk w he hf
      cases o' with
      | none => exact h2.elim
      | some p =>
        obtain ⟨j', u'⟩ := p
        obtain ⟨rfl, hu', _, e, hej, rfl, hek⟩ := h2
        obtain ⟨e', hej', hkk, _, _⟩ := he.at j e hej
        have hsame : e'.key = k' := key_same hkt.2 hek ha hkk hk
        have hej'' : es'[j]? = some e' := by simpa using hej'
        have hkeep : ∃ n, (Instr.keyThatStays e'.key k').run P w = .ok k' { w with drawn := w.drawn + n } := by
          unfold Instr.keyThatStays
          split
          · exact ⟨0, rfl⟩
          · simp only [Sem.run_bind, run_choose]
            split
            · exact ⟨0, by simp⟩
            · refine ⟨1, ?_⟩
              simp only [Result.andThen_ok]
              split <;> simp [hsame]
        obtain ⟨n, hkeep⟩ := hkeep
        have hput := Tn.put (P := P) r hb hφ rfl (o2 := .map (es.modify j fun e => { e with key := k, val := v }) clock) (O2 := .map (es'.modify j fun e => { e with key := k', val := v' }) clock)
          ⟨rfl, by simpa using he.modify j hk hv⟩ n
        refine ⟨_, ?_, hput⟩
        have hset := setObj_run (P := P) (w := { w with drawn := w.drawn + n }) (o2 := .map (es'.modify j fun e => { e with key := k', val := v' }) clock) ho (by intro _ _ _ q; cases q)
        simp only [Instr.mapUpdate, Sem.run_bind, underlying_run hu, Result.andThen_ok, hg, hc, h1, hej'', Option.map_some, Option.getD_some, hkeep, hset]
    · rename_i hf
      simp only [Option.some.injEq] at hs
      subst hs
      obtain ⟨o', h1, h2⟩ := findKey_sound (P := P) hkt.1 ha hk w he hf
      cases o' with
      | some _ => exact h2.elim
      | none =>
        have hput := Tn.put (P := P) r hb hφ rfl (o2 := .map (es ++ [{ key := k, val := v, born := clock }]) (clock + 1)) (O2 := .map (es'.push { key := k', val := v', born := clock }) (clock + 1))
          ⟨rfl, by simpa using he.append (us := [{ key := k, val := v, born := clock }]) (vs := [{ key := k', val := v', born := clock }]) ⟨hk, hv, rfl, trivial⟩⟩ 0
        refine ⟨_, ?_, hput⟩
        have hset := setObj_run (P := P) (w := w) (o2 := .map (es'.push { key := k', val := v', born := clock }) (clock + 1)) ho (by intro _ _ _ q; cases q)
        simp only [Instr.mapUpdate, Sem.run_bind, underlying_run hu, Result.andThen_ok, hg, hc, h1, hset]
        rfl
    · simp at hs

theorem delete_sound (r : R P φ h w) {t ty : TypeId} {m m' k k' u : Value} {h' : AH} {ats : Array TypeId} (hs : aDelete P h t m k = some (u, h')) (hm : VR φ m m') (hk : VR φ k k') (hat : ats[0]? = some t) :
    Ends P φ h w (Builtin.delete_ ats ty #[m', k']) u h' := by
  unfold aDelete at hs
  split at hs
  rotate_left
  · simp at hs
  rename_i kt et b hu
  split at hs
  rotate_left
  · simp at hs
  rename_i la es clock hkt ha hb
  simp only [keyT, Bool.and_eq_true] at hkt
  cases hm with
  | map hφ =>
    rename_i rc
    obtain ⟨es', ho, he⟩ := r.map hb hφ
    have hg := getObj_run (P := P) ho (by intro _ _ _ q; cases q)
    have hc := checkKey_run (P := P) hkt.1 ha hk es'.isEmpty w
    split at hs
    · rename_i j u hf
      simp only [Option.some.injEq, Prod.mk.injEq] at hs
      obtain ⟨rfl, rfl⟩ := hs
      obtain ⟨o', h1, h2⟩ := findKey_sound (P := P) hkt.1 ha hk w he hf
      cases o' with
      | none => exact h2.elim
      | some p =>
        obtain ⟨j', u'⟩ := p
        obtain ⟨rfl, hu', _, e, hej, rfl, hek⟩ := h2
        have hput := Tn.put (P := P) r hb hφ rfl (o2 := .map (es.eraseIdx j) clock) (O2 := .map (es'.eraseIdxIfInBounds j) clock) ⟨rfl, by simpa using he.eraseIdx j⟩ 0
        have hset := setObj_run (P := P) (w := w) (o2 := .map (es'.eraseIdxIfInBounds j) clock) ho (by intro _ _ _ q; cases q)
        refine ⟨φ, .tuple #[], _, ?_, .junk _, hput⟩
        simp [Builtin.delete_, hat, underlying_run hu, hg, hc, h1, hset]
    · rename_i hf
      simp only [Option.some.injEq, Prod.mk.injEq] at hs
      obtain ⟨rfl, rfl⟩ := hs
      obtain ⟨o', h1, h2⟩ := findKey_sound (P := P) hkt.1 ha hk w he hf
      cases o' with
      | some _ => exact h2.elim
      | none =>
        have hput := Tn.put (P := P) r hb hφ rfl (o2 := .map es clock) (O2 := .map es' clock) ⟨rfl, he⟩ 0
        have hset := setObj_run (P := P) (w := w) (o2 := .map es' clock) ho (by intro _ _ _ q; cases q)
        refine ⟨φ, .tuple #[], _, ?_, .junk _, hput⟩
        simp [Builtin.delete_, hat, underlying_run hu, hg, hc, h1, hset]
    · simp at hs
end Go.Am
