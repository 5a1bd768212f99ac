/-
  WHAT WAS SAVED IS LOADED: plain, no program in sight.
-/
import Derived.Test.YteblpmcekhcgiadCLoad
import Derived.Test.YteblpmcekhcgiadCSave
set_option linter.unusedVariables false
set_option linter.unusedSimpArgs false
set_option maxRecDepth 100000
namespace Go.Am
open Go.Proofs
theorem wr_ne : ∀ (as' : List Nat) (nw : List (List Nat)) (ss : List (List Nat)) (a : Nat), a ∉ as' → (wr nw as' ss)[a]? = nw[a]?
  | [], nw, ss, a, h => by simp [wr]
  | x :: xs, nw, [], a, h => by simp [wr]
  | x :: xs, nw, s :: ss, a, h => by
    show (wr (nw.set x s) xs ss)[a]? = _
    rw [wr_ne xs _ ss a (fun q => h (List.mem_cons_of_mem _ q)), List.getElem?_set, if_neg (fun e => h (by rw [e]; exact List.mem_cons_self))]
theorem wr_get : ∀ (as' : List Nat) (nw : List (List Nat)) (ss : List (List Nat)) (k a : Nat) (s : List Nat), as'.Nodup → (∀ x ∈ as', x < nw.length) → as'[k]? = some a → ss[k]? = some s → (wr nw as' ss)[a]? = some s
  | [], nw, ss, k, a, s, hn, hl, ha, hs => by simp at ha
  | x :: xs, nw, [], k, a, s, hn, hl, ha, hs => by simp at hs
  | x :: xs, nw, t :: ss, 0, a, s, hn, hl, ha, hs => by
    simp only [List.getElem?_cons_zero, Option.some.injEq] at ha hs
    subst ha
    subst hs
    show (wr (nw.set x t) xs ss)[x]? = _
    rw [wr_ne xs _ ss x (List.nodup_cons.1 hn).1, List.getElem?_set, if_pos rfl, if_pos (hl x List.mem_cons_self)]
  | x :: xs, nw, t :: ss, k + 1, a, s, hn, hl, ha, hs => by
    simp only [List.getElem?_cons_succ] at ha hs
    show (wr (nw.set x t) xs ss)[a]? = _
    exact wr_get xs (nw.set x t) ss k a s (List.nodup_cons.1 hn).2 (fun y hy => by rw [List.length_set]; exact hl y (List.mem_cons_of_mem _ hy)) ha hs
theorem getS_agree {nw nw' : List (List Nat)} {q : Tr3} (h : nw'[q.1]? = nw[q.1]?) : getS nw' q = getS nw q := by
  unfold getS
  rw [h]
theorem getS_of {nw : List (List Nat)} {a st : Nat} {s : List Nat} (h4 : 4 ≤ a) (h : nw[a]? = some s) : getS nw (a, st, crcOf s) = some s := by
  unfold getS
  rw [if_neg (fun e => by simp only [hole, Prod.mk.injEq] at e; omega)]
  simp only [h, if_true]
theorem nodesR_agree {nw nw' : List (List Nat)} {want : Nat} : ∀ {qs out : List Tr3}, (∀ q ∈ qs, getS nw' q = getS nw q) → nodesR nw' want qs out = nodesR nw want qs out
  | [], out, h => rfl
  | q :: qs, out, h => by
    rw [nodesR_cons, nodesR_cons, h q List.mem_cons_self]
    cases getS nw q with
    | none => rfl
    | some s =>
      simp only
      rw [nodesR_agree fun q hq => h q (List.mem_cons_of_mem _ hq)]
theorem textR_agree {nw nw' : List (List Nat)} : ∀ {qs : List Tr3} {acc : List Nat}, (∀ q ∈ qs, getS nw' q = getS nw q) → textR nw' qs acc = textR nw qs acc
  | [], acc, h => rfl
  | q :: qs, acc, h => by
    rw [textR_cons, textR_cons, h q List.mem_cons_self]
    cases getS nw q with
    | none => rfl
    | some s => exact textR_agree fun q hq => h q (List.mem_cons_of_mem _ hq)
theorem textQ_agree {nw nw' : List (List Nat)} {P0 : List Tr3} {n : Nat} {t : List Nat} (h : ∀ q ∈ P0, getS nw' q = getS nw q) (k : textQ nw P0 n t) : textQ nw' P0 n t := by
  obtain ⟨al, h1, h2⟩ := k
  exact ⟨al, by rw [textR_agree h]; exact h1, h2⟩
/-- What hangs under a level: what is loaded further down, and at the bottom. -/
inductive Hang (nw : List (List Nat)) : List Nat → List Tr3 → List Tr3 → List Tr3 → Prop
  | nil (lv : List Tr3) : Hang nw [] lv [] lv
  | cons {s : Nat} {S : List Nat} {lv l D P0 : List Tr3} : nodesR nw s lv [] = some l → Hang nw S l D P0 → Hang nw (s :: S) lv (l ++ D) P0
theorem Hang.down {nw : List (List Nat)} {S : List Nat} {lv D P0 : List Tr3} (h : Hang nw S lv D P0) : ∀ all, downR nw S lv all = some (P0, all ++ D) := by
  induction h with
  | nil lv => intro all; simp [downR]
  | cons h1 h2 ih =>
    intro all
    rw [downR_cons, h1]
    simp only
    rw [ih, List.append_assoc]
theorem Hang.sub {nw : List (List Nat)} {S : List Nat} {lv D P0 : List Tr3} (h : Hang nw S lv D P0) : ∀ q ∈ P0, q ∈ lv ++ D := by
  induction h with
  | nil lv => intro q hq; simpa using hq
  | cons h1 h2 ih => intro q hq; exact List.mem_append_right _ (ih q hq)
theorem Hang.agree {nw nw' : List (List Nat)} {S : List Nat} {lv D P0 : List Tr3} (h : Hang nw S lv D P0) : (∀ q ∈ lv ++ D, getS nw' q = getS nw q) → Hang nw' S lv D P0 := by
  induction h with
  | nil lv => exact fun _ => .nil lv
  | cons h1 h2 ih => exact fun k => .cons (by rw [nodesR_agree fun q hq => k q (List.mem_append_left _ hq)]; exact h1) (ih fun q hq => k q (List.mem_append_right _ hq))
theorem mkP_get {st : Nat} : ∀ {as' : List Nat} {ss : List (List Nat)} {k : Nat} {q : Tr3}, (mkP st as' ss)[k]? = some q → ∃ a s, as'[k]? = some a ∧ ss[k]? = some s ∧ q = (a, st, crcOf s) := by
  intro as' ss k q h
  unfold mkP at h
  rw [List.getElem?_zipWith] at h
  cases ha : as'[k]? with
  | none => rw [ha] at h; simp at h
  | some a =>
    cases hs : ss[k]? with
    | none => rw [ha, hs] at h; simp at h
    | some s =>
      rw [ha, hs] at h
      simp only [Option.some.injEq] at h
      exact ⟨a, s, rfl, rfl, h.symm⟩
theorem mkP_fst {st : Nat} : ∀ {as' : List Nat} {ss : List (List Nat)}, as'.length = ss.length → (mkP st as' ss).map (·.1) = as'
  | [], ss, h => by simp [mkP]
  | a :: as', [], h => by simp at h
  | a :: as', s :: ss, h => by
    show a :: (mkP st as' ss).map (·.1) = _
    rw [mkP_fst (by simpa using h)]
theorem textR_mkP {nw : List (List Nat)} {st : Nat} : ∀ {as' : List Nat} {ss : List (List Nat)} {acc : List Nat}, as'.length = ss.length → (∀ (k a : Nat) s, as'[k]? = some a → ss[k]? = some s → 4 ≤ a ∧ nw[a]? = some s) → textR nw (mkP st as' ss) acc = some (acc ++ ss.flatten)
  | [], [], acc, hl, h => by simp [mkP, textR]
  | [], s :: ss, acc, hl, h => by simp at hl
  | a :: as', [], acc, hl, h => by simp at hl
  | a :: as', s :: ss, acc, hl, h => by
    show textR nw ((a, st, crcOf s) :: mkP st as' ss) acc = _
    have k := h 0 a s rfl rfl
    rw [textR_cons, getS_of k.1 k.2]
    simp only
    rw [textR_mkP (by simpa using hl) (fun k a s h1 h2 => h (k + 1) a s (by simpa using h1) (by simpa using h2)), List.flatten_cons, List.append_assoc]
theorem blks_cons (text : List Nat) (N : Nat) : blks text (N + 1) = blkOf (text.take 128) :: blks (text.drop 128) N := by
  unfold blks
  rw [List.range_succ_eq_map, List.map_cons, List.map_map]
  congr 1
  apply List.map_congr_left
  intro k _
  simp only [Function.comp, List.drop_drop]
  congr 3
  omega
theorem blks_flat : ∀ (N : Nat) (text : List Nat), text.length ≤ N * 128 → (blks text N).flatten = text ++ List.replicate (N * 128 - text.length) 0
  | 0, text, h => by
    have : text = [] := List.eq_nil_of_length_eq_zero (by omega)
    subst this
    simp [blks]
  | N + 1, text, h => by
    rw [blks_cons, List.flatten_cons, blks_flat N _ (by rw [List.length_drop]; omega)]
    unfold blkOf
    rw [List.length_drop, List.length_take]
    by_cases q : 128 ≤ text.length
    · rw [Nat.min_eq_left q, Nat.sub_self, List.replicate_zero, List.append_nil, ← List.append_assoc, List.take_append_drop]
      congr 2
      omega
    · rw [Nat.min_eq_right (by omega), List.take_of_length_le (by omega), List.drop_eq_nil_of_le (by omega), List.nil_append, List.append_assoc, List.replicate_append_replicate]
      congr 2
      omega
theorem text_saved {nw : List (List Nat)} {st : Nat} {as' : List Nat} {text : List Nat} {N : Nat} (hl : as'.length = N) (ht : text.length ≤ N * 128) (h : ∀ (k a : Nat) s, as'[k]? = some a → (blks text N)[k]? = some s → 4 ≤ a ∧ nw[a]? = some s) : textQ nw (mkP st as' (blks text N)) text.length text := by
  refine ⟨_, textR_mkP (by rw [blks_len]; exact hl) h, ?_, ?_⟩
  · rw [List.nil_append, blks_flat N text ht]
    intro i x hi hx
    rw [List.getElem?_append_right hi, List.getElem?_replicate] at hx
    split at hx
    · cases hx; rfl
    · cases hx
  · rw [List.nil_append, blks_flat N text ht, List.take_left']
    rfl
/-- The nodes above a level give the level. -/
theorem nodes_saved {nw : List (List Nat)} {st : Nat} {as' : List Nat} {level : List Tr3} {N : Nat} (hl : as'.length = N) (hN : level.length ≤ N * 8) (hN2 : N * 8 < level.length + 8) (hok : ∀ q ∈ level, QOk q ∧ q ≠ hole)
    (h : ∀ (k a : Nat) s, as'[k]? = some a → (nds level N)[k]? = some s → 4 ≤ a ∧ nw[a]? = some s) : nodesR nw level.length (mkP st as' (nds level N)) [] = some level := by
  have hml : (mkP st as' (nds level N)).length = N := by rw [mkP_len _ _ _ (by rw [nds_len]; exact hl)]; exact hl
  have key : ∀ j i, i + j = N → nodesR nw level.length ((mkP st as' (nds level N)).drop i) (level.take (i * 8)) = some level := by
    intro j
    induction j with
    | zero =>
      intro i hi
      rw [List.drop_eq_nil_of_le (by omega), List.take_of_length_le (by omega)]
      rfl
    | succ j ih =>
      intro i hi
      have hiN : i < (mkP st as' (nds level N)).length := by omega
      obtain ⟨a, s, ha, hs, e⟩ := mkP_get (List.getElem?_eq_getElem hiN)
      obtain ⟨h4, hw⟩ := h i a s ha hs
      rw [nds_get level (by omega)] at hs
      simp only [Option.some.injEq] at hs
      have hpl : ((level.drop (i * 8)).take 8).length ≤ 8 := by rw [List.length_take]; omega
      have hp0 : ((level.drop (i * 8)).take 8).length = min 8 (level.length - i * 8) := by rw [List.length_take, List.length_drop]
      have hpo : ∀ q ∈ (level.drop (i * 8)).take 8, QOk q ∧ q ≠ hole := fun q hq => hok q (List.mem_of_mem_drop (List.mem_of_mem_take hq))
      have hadd : level.take (i * 8) ++ (level.drop (i * 8)).take 8 = level.take ((i + 1) * 8) := by
        rw [show (i + 1) * 8 = i * 8 + 8 by omega, List.take_add]
      generalize (level.drop (i * 8)).take 8 = part at hpl hp0 hpo hadd hs
      subst hs
      have hD : nodeD (nodeB (pad8 part)) = pad8 part := nodeD_B (pad8_len hpl) (pad8_ok fun q hq => (hpo q hq).1)
      rw [List.drop_eq_getElem_cons hiN, e, nodesR_cons, getS_of h4 hw]
      simp only
      have ho : (level.take (i * 8)).length = i * 8 := by rw [List.length_take]; omega
      rw [ho, hD, ← hp0]
      have hk : okN (pad8 part) part.length := by
        refine ⟨pad8_ok fun q hq => (hpo q hq).1, fun y x hy => ?_⟩
        unfold pad8 at hy
        by_cases hlt : y < part.length
        · rw [List.getElem?_append_left hlt] at hy
          exact ⟨fun _ => hlt, fun _ => (hpo x (List.mem_of_getElem? hy)).2⟩
        · rw [List.getElem?_append_right (by omega), List.getElem?_replicate] at hy
          split at hy
          · cases hy
            exact ⟨fun z => absurd rfl z, fun z => absurd z hlt⟩
          · cases hy
      rw [if_pos hk, show (pad8 part).take part.length = part from by unfold pad8; rw [List.take_left'] ; rfl, hadd]
      exact ih (i + 1) (by omega)
  have := key N 0 (by omega)
  simpa using this
/-- A level of a text that is being saved: what hangs under it, and what is left of the addresses. -/
def Up (n : Nat) (text : List Nat) (as' : List Nat) (nw : List (List Nat)) (level : List Tr3) (at' : List Nat) : Prop :=
  ∃ (S : List Nat) (D P0 : List Tr3) (U : List Nat), Hang nw S level D P0 ∧ textQ nw P0 n text ∧ as' = U ++ (level.map (·.1) ++ at') ∧ (D.map (·.1)).Perm U ∧ (∀ q ∈ level ++ D, QOk q ∧ q ≠ hole) ∧ levelsL (n : Nat) = S.reverse ++ (level.length :: ups level.length) ∧ at'.length = (ups level.length).sum ∧ 1 ≤ level.length
theorem mkP_ok {st : Nat} {as' : List Nat} {ss : List (List Nat)} (hst : StOk st) (ha : ∀ a ∈ as', 4 ≤ a ∧ a < 1024) (hs : ∀ s ∈ ss, Sec s) : ∀ q ∈ mkP st as' ss, QOk q ∧ q ≠ hole := by
  intro q hq
  obtain ⟨k, hk⟩ := List.mem_iff_getElem?.1 hq
  obtain ⟨a, s, h1, h2, rfl⟩ := mkP_get hk
  have ha := ha a (List.mem_of_getElem? h1)
  have hs := hs s (List.mem_of_getElem? h2)
  have hne : ((a, st, crcOf s) : Tr3) ≠ hole := fun e => by simp only [hole, Prod.mk.injEq] at e; omega
  exact ⟨⟨crcOf_lt hs.2, .inr ⟨ha.1, ha.2, hst.1, hst.2⟩⟩, hne⟩
theorem blks_sec {text : List Nat} (hb : ∀ x ∈ text, x < 256) (N : Nat) : ∀ s ∈ blks text N, Sec s := by
  intro s hs
  unfold blks at hs
  obtain ⟨k, -, rfl⟩ := List.mem_map.1 hs
  exact blk_sec (by rw [List.length_take]; omega) fun x hx => hb x (List.mem_of_mem_drop (List.mem_of_mem_take hx))
theorem nds_sec {level : List Tr3} (N : Nat) : ∀ s ∈ nds level N, Sec s := by
  intro s hs
  unfold nds at hs
  obtain ⟨k, -, rfl⟩ := List.mem_map.1 hs
  exact nodeB_sec (pad8_len (by rw [List.length_take]; omega))
theorem Up.begin {n st : Nat} {text as' : List Nat} {nw : List (List Nat)} {N : Nat} (h1 : 1 ≤ n) (h2 : n ≤ 65535) (hN : N = (n + 127) / 128) (ht : text.length = n) (hb : ∀ x ∈ text, x < 256) (hst : StOk st) (hl : as'.length = needL n) (hnd : as'.Nodup) (ha : ∀ a ∈ as', 4 ≤ a ∧ a < 1024 ∧ a < nw.length) :
    Up n text as' (wr nw (as'.take N) (blks text N)) (mkP st (as'.take N) (blks text N)) (as'.drop N) := by
  have hL := levels_eq h1 h2
  rw [← hN] at hL
  have hsum : as'.length = N + (ups N).sum := by rw [hl]; unfold needL; rw [hL, List.sum_cons]
  have htl : (as'.take N).length = N := by rw [List.length_take]; omega
  have hml : (mkP st (as'.take N) (blks text N)).length = N := by rw [mkP_len _ _ _ (by rw [htl, blks_len])]; exact htl
  have hok : ∀ q ∈ mkP st (as'.take N) (blks text N), QOk q ∧ q ≠ hole := mkP_ok hst (fun a h => ⟨(ha a (List.mem_of_mem_take h)).1, (ha a (List.mem_of_mem_take h)).2.1⟩) (blks_sec hb N)
  have hnd' : (as'.take N).Nodup := hnd.sublist (List.take_sublist _ _)
  refine ⟨[], [], mkP st (as'.take N) (blks text N), [], .nil _, ?_, ?_, .refl _, by rw [List.append_nil]; exact hok, by rw [hml]; exact hL, by rw [hml, List.length_drop]; omega, by rw [hml]; omega⟩
  · rw [← ht]
    refine text_saved htl (by omega) fun k a s h1 h2 => ⟨(ha a (List.mem_of_mem_take (List.mem_of_getElem? h1))).1, ?_⟩
    exact wr_get _ _ _ k a s hnd' (fun x hx => (ha x (List.mem_of_mem_take hx)).2.2) h1 h2
  · rw [mkP_fst (by rw [htl, blks_len]), List.nil_append, List.take_append_drop]
theorem Up.step {n st : Nat} {text as' at' : List Nat} {nw : List (List Nat)} {level : List Tr3} {N : Nat} (u : Up n text as' nw level at') (h1 : 1 < level.length) (hN : N = (level.length + 7) / 8) (hst : StOk st) (hnd : as'.Nodup) (ha : ∀ a ∈ as', 4 ≤ a ∧ a < 1024 ∧ a < nw.length) :
    Up n text as' (wr nw (at'.take N) (nds level N)) (mkP st (at'.take N) (nds level N)) (at'.drop N) := by
  obtain ⟨S, D, P0, U, hh, ht, ha', hp, hok, hl, hal, -⟩ := u
  have hup := ups_step h1
  rw [← hN] at hup
  rw [hup, List.sum_cons] at hal
  have htl : (at'.take N).length = N := by rw [List.length_take]; omega
  have hml : (mkP st (at'.take N) (nds level N)).length = N := by rw [mkP_len _ _ _ (by rw [htl, nds_len])]; exact htl
  have hin : ∀ a ∈ at', a ∈ as' := fun a h => by rw [ha']; exact List.mem_append_right _ (List.mem_append_right _ h)
  have hok2 : ∀ q ∈ mkP st (at'.take N) (nds level N), QOk q ∧ q ≠ hole := mkP_ok hst (fun a h => ⟨(ha a (hin a (List.mem_of_mem_take h))).1, (ha a (hin a (List.mem_of_mem_take h))).2.1⟩) (nds_sec N)
  rw [ha', List.nodup_append] at hnd
  obtain ⟨n1, n2, n3⟩ := hnd
  rw [List.nodup_append] at n2
  obtain ⟨n4, n5, n6⟩ := n2
  have hagree : ∀ q ∈ level ++ D, getS (wr nw (at'.take N) (nds level N)) q = getS nw q := by
    intro q hq
    refine getS_agree (wr_ne _ _ _ _ fun z => ?_)
    have z := List.mem_of_mem_take z
    rcases List.mem_append.1 hq with hq | hq
    · exact n6 q.1 (List.mem_map_of_mem hq) q.1 z rfl
    · exact n3 q.1 (hp.subset (List.mem_map_of_mem hq)) q.1 (List.mem_append_right _ z) rfl
  refine ⟨level.length :: S, level ++ D, P0, U ++ level.map (·.1), .cons ?_ (hh.agree hagree), textQ_agree (fun q hq => hagree q (hh.sub q hq)) ht, ?_, ?_, ?_, ?_, ?_, ?_⟩
  · refine nodes_saved htl (by omega) (by omega) (fun q hq => hok q (List.mem_append_left _ hq)) fun k a s h1 h2 => ⟨(ha a (hin a (List.mem_of_mem_take (List.mem_of_getElem? h1)))).1, ?_⟩
    exact wr_get _ _ _ k a s (n5.sublist (List.take_sublist _ _)) (fun x hx => (ha x (hin x (List.mem_of_mem_take hx))).2.2) h1 h2
  · rw [mkP_fst (by rw [htl, nds_len]), List.append_assoc, List.take_append_drop]
    exact ha'
  · rw [List.map_append]
    exact (List.perm_append_comm).trans (hp.append_right _)
  · intro q hq
    rcases List.mem_append.1 hq with hq | hq
    · exact hok2 q hq
    · exact hok q hq
  · rw [hml, List.reverse_cons, List.append_assoc, hl, hup]
    rfl
  · rw [hml, List.length_drop]; omega
  · rw [hml]; omega
theorem Up.fin {n : Nat} {text as' at' : List Nat} {nw : List (List Nat)} {level : List Tr3} (u : Up n text as' nw level at') (h1 : ¬ 1 < level.length) : ∃ root D, level = [root] ∧ QOk root ∧ root ≠ hole ∧ loadQ nw root n text (root :: D) ∧ ((root :: D).map (·.1)).Perm as' ∧ as'.getLast? = some root.1 ∧ ∀ q ∈ root :: D, QOk q ∧ q ≠ hole := by
  obtain ⟨S, D, P0, U, hh, ht, ha', hp, hok, hl, hal, hlen⟩ := u
  rw [ups_end h1] at hl hal
  have hat : at' = [] := List.eq_nil_of_length_eq_zero hal
  subst hat
  obtain ⟨root, rfl⟩ : ∃ root, level = [root] := List.length_eq_one_iff.1 (by omega)
  have hr := hok root (List.mem_append_left _ List.mem_cons_self)
  refine ⟨root, D, rfl, hr.1, hr.2, ⟨P0, ?_, ht⟩, ?_, ?_, hok⟩
  · rw [hl, List.length_singleton, List.dropLast_concat, List.reverse_reverse]
    exact hh.down [root]
  · rw [ha', List.map_cons, List.append_nil]
    exact (List.Perm.cons root.1 hp).trans (List.perm_append_comm (l₁ := [root.1]) (l₂ := U))
  · rw [ha']
    simp
end Go.Am
