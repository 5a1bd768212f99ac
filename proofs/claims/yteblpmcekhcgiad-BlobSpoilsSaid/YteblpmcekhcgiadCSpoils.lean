/-
  ONE SECTOR OVERWRITTEN: the law of a text of which a sector is spoilt, as the abstract machine runs it.
-/
import Derived.Test.YteblpmcekhcgiadCBack
set_option linter.unusedVariables false
set_option linter.unusedSimpArgs false
set_option maxRecDepth 100000
namespace Go.Am
open Go.Proofs
theorem nodesR_none {nw : List (List Nat)} {want : Nat} {q : Tr3} (hn : getS nw q = none) : ∀ {qs out : List Tr3}, q ∈ qs → nodesR nw want qs out = none
  | x :: qs, out, h => by
    rw [nodesR_cons]
    rcases List.mem_cons.1 h with rfl | h
    · rw [hn]
    · cases getS nw x with
      | none => rfl
      | some s =>
        simp only
        rw [nodesR_none hn h]
        split <;> rfl
theorem textR_none {nw : List (List Nat)} {q : Tr3} (hn : getS nw q = none) : ∀ {qs : List Tr3} {acc : List Nat}, q ∈ qs → textR nw qs acc = none
  | x :: qs, acc, h => by
    rw [textR_cons]
    rcases List.mem_cons.1 h with rfl | h
    · rw [hn]
    · cases getS nw x with
      | none => rfl
      | some s => exact textR_none hn h
theorem Hang.of_down {nw : List (List Nat)} : ∀ {S : List Nat} {lv all P0 X : List Tr3}, downR nw S lv all = some (P0, X) → ∃ D, X = all ++ D ∧ Hang nw S lv D P0
  | [], lv, all, P0, X, h => by
    simp only [downR, Option.some.injEq, Prod.mk.injEq] at h
    obtain ⟨rfl, rfl⟩ := h
    exact ⟨[], by simp, .nil _⟩
  | s :: S, lv, all, P0, X, h => by
    rw [downR_cons] at h
    cases hl : nodesR nw s lv [] with
    | none => rw [hl] at h; cases h
    | some l =>
      rw [hl] at h
      obtain ⟨D, rfl, hh⟩ := Hang.of_down h
      exact ⟨l ++ D, by rw [List.append_assoc], .cons hl hh⟩
theorem Hang.spoil {nw nw2 : List (List Nat)} {q : Tr3} (hn : getS nw2 q = none) {S : List Nat} {lv D P0 : List Tr3} (h : Hang nw S lv D P0) : (∀ q' ∈ lv ++ D, q' ≠ q → getS nw2 q' = getS nw q') → q ∈ lv ++ D → ∀ all P1 X al, downR nw2 S lv all = some (P1, X) → textR nw2 P1 [] = some al → False := by
  induction h with
  | nil lv =>
    intro ha hq all P1 X al h1 h2
    simp only [downR, Option.some.injEq, Prod.mk.injEq] at h1
    rw [← h1.1, textR_none hn (by simpa using hq)] at h2
    cases h2
  | @cons s S lv l D P0 hl hh ih =>
    intro ha hq all P1 X al h1 h2
    rw [downR_cons] at h1
    by_cases hlv : q ∈ lv
    · rw [nodesR_none hn hlv] at h1
      cases h1
    · have hag : nodesR nw2 s lv [] = nodesR nw s lv [] := nodesR_agree fun q' hq' => ha q' (List.mem_append_left _ hq') fun e => hlv (by rw [← e]; exact hq')
      rw [hag, hl] at h1
      exact ih (fun q' hq' => ha q' (List.mem_append_right _ hq')) ((List.mem_append.1 hq).resolve_left hlv) _ _ _ _ h1 h2
theorem ptr3_fst {l : List Tr3} {u : Nat} (h : u < l.length) : (ptr3 l)[u * 3]? = some (.int .i64 (l[u].1 : Nat)) := by
  have := congrArg (fun x : List Value => x[0]?) (ptr3_get l u h)
  simp only [List.getElem?_take, List.getElem?_drop, Nat.add_zero] at this
  rw [if_pos (by decide)] at this
  exact this
theorem inj_on_of_nodup_map' : ∀ {l : List Tr3}, (l.map (·.1)).Nodup → ∀ {x y : Tr3}, x ∈ l → y ∈ l → x.1 = y.1 → x = y
  | a :: l, hn, x, y, hx, hy, e => by
    rw [List.map_cons, List.nodup_cons] at hn
    rcases List.mem_cons.1 hx with rfl | hx'
    · rcases List.mem_cons.1 hy with rfl | hy'
      · rfl
      · exact absurd (by rw [e]; exact List.mem_map_of_mem hy') hn.1
    · rcases List.mem_cons.1 hy with rfl | hy'
      · exact absurd (by rw [← e]; exact List.mem_map_of_mem hx') hn.1
      · exact inj_on_of_nodup_map' hn.2 hx' hy' e
section
variable {K : Xs}
theorem spoilsTrue (hk : K 5 = none) (ha : K 6 = some (.sum xTrue)) (kk : KBack K) (kV : K 13 = none) (kR : K 15 = none) {h : AH} {pa : Option Addr} {na ca : Nat} {data : List Nat} (T : Text h pa na data) (ati : Int) {rot : List Nat} (hrot : Sec rot) :
    Wf Try.prog K 5 [.slice pa na ca, .int .i64 ati, .agg (secC rot).toArray] h fun v _ => v = .bool true := by
  have hrl := secC_len hrot
  refine vc_aquiferlaw12_BlobSpoils hk _ _ _ _ _ h _ fun g0 e0 => Wf_sum ha (v := .bool true) (h' := g0) rfl (Nat.le_refl _) (.inl ⟨rfl, (needSpec kk.ks.bNeed kk.ks.bLevels kk.ks.bUp (na : Nat) g0).mono ?_⟩)
  rintro _ g4 ⟨rfl, o4'⟩
  have o0 := old_of_alloc e0
  have n0 := next_of_alloc e0
  have o4 := o0.trans o4'
  have c4 : g4.get h.next = some (.cells (secC rot) 46 false) := (o4'.2 _ (by omega)).trans (get_of_alloc e0)
  have l4 : h.next < g4.next := by have := o4'.1; omega
  have T4 := T.old o4
  refine ⟨_, rfl, fun _ => rfl, fun z => ⟨fun _ => rfl, fun y => ⟨fun _ => rfl, fun x => ⟨fun _ => rfl, fun w => ?_⟩⟩⟩⟩
  have hneed1 : ¬ (1 ≤ na ∧ na ≤ 65535) → needL (na : Nat) = 0 := fun z => by
    unfold needL levelsL
    rw [if_pos (by omega)]
    rfl
  have hr : 1 ≤ na ∧ na ≤ 65535 := Classical.byContradiction fun y => absurd (hneed1 y) (by omega)
  have hnd := T4.2.1
  obtain ⟨u, rfl⟩ : ∃ u : Nat, ati = u := ⟨ati.toNat, by omega⟩
  refine saved_then kk (N := 256) (by decide) (by rw [new_256]) T4 hr.1 hr.2 (by omega) ?_
  intro p p13 n14 g24 g30 root D as' F d m W nw M s
  refine (blobLoad kk.kl s.po s.qok s.ne hr.1 hr.2).mono ?_
  rintro _ g35 ⟨hv, B35, f35⟩
  have hload : loadQ nw root na data (root :: D) := by rw [hnd]; exact s.load
  have hneed : as'.length = needL (na : Nat) := by rw [hnd]; exact s.atN
  have hlen := loadQ_len (nw := nw) (root := root) (n := na) (t := data) s.perm
  have hmlt : ∀ q ∈ root :: D, q.1 < 256 := fun q hq => (s.lt _ (s.perm.subset (List.mem_map_of_mem hq))).2
  rcases hv with ⟨t, all, b, pl, nl, cl, hq, rfl, -, -, Gl⟩ | ⟨hq, -⟩
  rotate_left
  · exact absurd ⟨_, _, hload⟩ hq
  obtain ⟨et, ea⟩ := loadQ_det hq hload
  rw [ea] at Gl
  have hnl : nl = (root :: D).length := by have := Gl.1; rw [ptr3_len] at this; omega
  obtain ⟨lb, rfl⟩ := Gl.some (by omega)
  -- blocks of one's own
  have hF30 := s.po.lt
  have wl : Mine g35 F lb (ptr3 (root :: D)) 36 := by
    rcases Gl.2 with ⟨z, -⟩ | ⟨b', hp, h1, h2, h3, -⟩
    · cases z
    · simp only [Option.some.injEq, Addr.mk.injEq, and_true] at hp
      subst hp
      exact ⟨h3, h2, fun z => absurd (hF30 _ z) (by omega)⟩
  have wr30 : Mine g30 F h.next (secC rot) 46 := ⟨(s.old.2 _ l4).trans c4, by have := s.old.1; omega, fun z => by have := s.own _ z; omega⟩
  have wr35 := wr30.fr f35
  have wp35 := s.ptr.fr f35
  have o35 := (f35.old s.old s.own).1
  refine ⟨_, _, _, _, _, _, _, rfl, fun _ => ⟨fun _ => ?_, fun y => absurd (by omega) y⟩, fun y => absurd rfl y⟩
  obtain ⟨Fd, P35⟩ := B35
  have hFe := P35.F_eq
  subst hFe
  refine (pileDev kV P35).mono ?_
  rintro _ _ ⟨rfl, rfl⟩
  have hu : u < (root :: D).length := by omega
  have hqm := List.getElem_mem hu
  have hldp : (((ptr3 (root :: D)).drop (u * 3)).take 3) = _ := ptr3_get (root :: D) u hu
  have hfst := ptr3_fst hu
  have hl3 : 0 + u * 3 + 3 ≤ (ptr3 (root :: D)).length := by rw [ptr3_len]; omega
  generalize (root :: D)[u] = q at hqm hldp hfst
  have hq1 := hmlt q hqm
  have hqn : q.1 < nw.length := by rw [s.len]; exact hq1
  have hw6 := s.w
  have lq : ∀ {g : AH} {F : List Nat}, Mine g F lb (ptr3 (root :: D)) 36 → ld1 g lb (0 + Int.toNat ((u : Nat) : Int) * 3) = some (.int .i64 (q.1 : Nat)) := fun w => ld1_at w.1 (by rw [Int.toNat_natCast, Nat.zero_add]; exact hfst)
  refine ⟨_, rfl, derefP_at ⟨by omega, by omega, _, lq wl, (devRead kk.kl.dRead kk.kl.dCount kk.kl.dHas P35.dev _).mono ?_⟩⟩
  rintro v g50 ⟨D50, f50', hv⟩
  obtain ⟨P50, f50⟩ := P35.onDev D50 f50' rfl
  obtain ⟨was, hwas, rfl⟩ : ∃ s, nw[q.1]? = some s ∧ v = .tuple #[.agg (secC s).toArray, .int .i64 0] := by
    rcases hv with ⟨s, -, h1, h2⟩ | ⟨z, -⟩
    · exact ⟨s, by rw [Int.toNat_natCast] at h1; exact h1, h2⟩
    · exact absurd ⟨by omega, by omega⟩ z
  have hws := P35.dev.secs was (List.mem_of_getElem? hwas)
  refine ⟨_, _, rfl, fun g53 e53 => ?_⟩
  obtain ⟨g54, k54, n54, o54, v54⟩ := put_new e53 (vs := secC was) (by rw [secC_len hws]; simp)
  have ww54 := v54 (p :: m :: Fd) P50.mem_lt
  have P54 := P50.old o54
  have wl54 := (wl.fr f50).old o54
  have wr54 := (wr35.fr f50).old o54
  have wp54 := (wp35.fr f50).old o54
  refine ⟨secC_len hws, g54, k54, lq wl, lq wl, (pileDev kV P54).mono ?_⟩
  rintro _ _ ⟨rfl, rfl⟩
  refine ⟨_, rfl, derefP_at ⟨by omega, by omega, _, lq wl54, _, wr54.ld hrl, (devRot kR kk.kl.dHas P54.dev (by omega) _ hrot).mono ?_⟩⟩
  rintro v g63 (⟨-, -, rfl, D63, f63'⟩ | ⟨z, -⟩)
  rotate_left
  · exact absurd ⟨by omega, by omega⟩ z
  rw [Int.toNat_natCast] at D63
  obtain ⟨P63, f63⟩ := P54.onDev D63 f63' (by rw [List.length_set])
  have wl63 := wl54.fr f63
  have wr63 := wr54.fr f63
  have wp63 := wp54.fr f63
  have ww63 := ww54.fr f63
  refine ⟨_, rfl, lq wl54, lq wl54, self_sec ⟨wr54.ld hrl, self_sec ⟨wr54.ld hrl, derefP_at ⟨by omega, by omega, _, _, _, (wl63.ldp (by rw [Int.toNat_natCast]; exact hl3)).trans (by rw [Int.toNat_natCast, Nat.zero_add, hldp]), ?_⟩⟩⟩⟩
  have hqok := (s.all q hqm).1
  refine (getG kk.kl ⟨Fd, P63⟩ hqok).mono ?_
  rintro v g71 ⟨hv, B71, f71⟩
  obtain ⟨sx, ex, rfl, hsx, hex⟩ : ∃ (sx : List Nat) (ex : Int), v = .tuple #[.agg (secC sx).toArray, .int .i64 ex] ∧ Sec sx ∧ (¬ ex = 0 → getS (nw.set q.1 rot) q = none) := by
    rcases hv with ⟨s, h1, h2, h3⟩ | ⟨h1, h2⟩
    · exact ⟨s, 0, h3, h2, fun z => absurd rfl z⟩
    · exact ⟨_, 91, h2, sec_zero, fun _ => h1⟩
  refine ⟨_, _, rfl, fun g74 e74 => ?_⟩
  obtain ⟨g75, k75, n75, o75, v75⟩ := put_new e74 (vs := secC sx) (by rw [secC_len hsx]; simp)
  have wp75 := (wp63.fr f71).old o75
  refine ⟨secC_len hsx, g75, k75, _, _, _, wp75.ld rfl, (blobLoad kk.kl (B71.old o75) s.qok s.ne hr.1 hr.2).mono ?_⟩
  rintro v g80 ⟨hv, B80, f80⟩
  have wr80 := ((wr63.fr f71).old o75).fr f80
  have ww80 := ((ww63.fr f71).old o75).fr f80
  have o80 : Old g4 g80 := by
    have own : ∀ c ∈ p :: m :: Fd, g4.next ≤ c := s.own
    have k1 := f50.old o35 own
    have k2 := f63.old (k1.1.trans o54) k1.2
    have k3 := f71.old k2.1 k2.2
    exact (f80.old (k3.1.trans o75) k3.2).1
  suffices fin : ∃ (p81 : Option Addr) (n82 c83 : Nat) (p84 : Option Addr) (n85 c86 : Nat) (i87 : Int), v = .tuple #[.slice p81 n82 c83, .slice p84 n85 c86, .int .i64 i87] ∧ (rot = was → i87 = 0 ∧ Shows g80 p81 n82 1 (natC .u8 data) ∧ ∃ b off, p81 = some ⟨b, off, none⟩) ∧ (¬ ex = 0 → i87 = 91 ∧ n82 = 0 ∧ n85 = 0) by
    obtain ⟨p81, n82, c83, p84, n85, c86, i87, e1, e2, e3⟩ := fin
    refine ⟨p81, n82, c83, p84, n85, c86, i87, e1, _, wr80.ld hrl, _, ww80.ld (secC_len hws), _, _, kSec hrot, kSec hws, fun z => ?_, fun z => ⟨fun _ => rfl, fun y => ?_⟩⟩
    · rw [lits_sec] at z
      obtain ⟨rfl, hS, hp⟩ := e2 (of_decide_eq_true z)
      exact ⟨fun _ => ⟨_, convS hS (.inr hp), _, convS (T4.2.2.2.1.old o80) T4.1, fun _ => rfl, fun y => absurd rfl y⟩, fun y => absurd rfl y⟩
    · obtain ⟨rfl, rfl, rfl⟩ := e3 y
      exact ⟨fun _ i94 e94 => ⟨fun _ => rfl, fun w => absurd (by rw [e94]; rfl) w⟩, fun w => absurd rfl w⟩
  rcases hv with ⟨t2, all2, b2, pa2, na2, ca2, hq2, rfl, St2, hb2, -⟩ | ⟨hq2, rfl⟩
  · refine ⟨_, _, _, _, _, _, _, rfl, fun e => ⟨rfl, ?_, _, _, rfl⟩, fun e => ?_⟩
    · have : nw.set q.1 rot = nw := by
        rw [e]
        apply List.ext_getElem?
        intro j
        rw [List.getElem?_set]
        split
        · rename_i hj
          rw [← hj, hwas]
        · rfl
      rw [this] at hq2
      rw [← (loadQ_det hq2 hload).1]
      exact St2
    · exfalso
      obtain ⟨lv, h1, al, h2, -⟩ := hload
      obtain ⟨lv2, h3, al2, h4, -⟩ := hq2
      obtain ⟨D', h5, hh⟩ := Hang.of_down h1
      have hDe : D = D' := by simpa using h5
      subst hDe
      refine hh.spoil (hex e) (fun q' hq' hne => getS_agree ?_) hqm _ _ _ _ h3 h4
      rw [List.getElem?_set, if_neg]
      intro hqq
      apply hne
      have hml : ((root :: D).map (·.1)).Nodup := s.perm.nodup_iff.2 s.nd
      exact inj_on_of_nodup_map' hml hq' hqm hqq.symm
  · refine ⟨_, _, _, _, _, _, _, rfl, fun e => ?_, fun e => ⟨rfl, rfl, rfl⟩⟩
    exfalso
    refine hq2 ⟨data, root :: D, ?_⟩
    have : nw.set q.1 rot = nw := by
      rw [e]
      apply List.ext_getElem?
      intro j
      rw [List.getElem?_set]
      split
      · rename_i hj
        rw [← hj, hwas]
      · rfl
    rw [this]
    exact hload
theorem spoils_args {h : AH} {vs : List Value} (r : RdA Try.prog h 8 [22, 3, 46] vs) : ∃ pa na ca data ati rot, vs = [.slice pa na ca, .int .i64 ati, .agg (secC rot).toArray] ∧ Text h pa na data ∧ Sec rot := by
  obtain ⟨a, b, c, rfl, r1, r2, r3⟩ := rda3 r
  obtain ⟨pa, na, ca, data, rfl, T⟩ := rd_text (g := 6) (rdv_bytes r1)
  obtain ⟨ati, rfl, -⟩ := rd_int (g := 7) r2
  obtain ⟨rot, rfl, hr⟩ := rd_sec (g := 6) r3
  exact ⟨pa, na, ca, data, ati, rot, rfl, T, hr⟩
end
end Go.Am
