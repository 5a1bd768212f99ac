/-
  WHICH LISTS ARE FAMILIES: all of it.
-/
import Derived.Test.YtibgmhipepaeaaaCFamH
set_option linter.unusedVariables false
set_option linter.unusedSimpArgs false
set_option maxRecDepth 100000
namespace Go.Am
open Go.Proofs
def calV (c : Cal) : Value := .agg #[.int .u64 c.1, .string c.2]
def CalOk (c : Cal) : Prop := (Lit.int .u64 c.1).wf = true ∧ c.2.size ≤ maxLen
def calL (c : Cal) : List Lit := [.int .u64 c.1, .string c.2.data.toList]
theorem fCal (c : Cal) : (calV c).formed Try.prog 73 = true := by
  simp [calV, Value.formed]
theorem kCal {c : Cal} (k : CalOk c) : keyA Try.prog 73 (calV c) = some (calL c) := by
  have hf := fCal c
  unfold calV at hf ⊢
  rw [aKey_eq hf, aKey_structN Try.underlying73 (d := 39) rfl]
  have k3 := aKey_intN (P := Try.prog) Try.underlying22 (m := 39) (d := 38) rfl c.1
  have k4 := aKey_stringN (P := Try.prog) Try.underlying9 (m := 39) (d := 38) rfl c.2
  rw [if_pos k.1] at k3
  rw [if_pos k.2] at k4
  generalize Try.prog.keyLits 39 = KL at k3 k4 ⊢
  simp [k3, k4, calL]
theorem calL_eq (a b : Cal) : litsEq (calL a) (calL b) = decide (a = b) := by
  obtain ⟨a1, ⟨⟨a2⟩⟩⟩ := a
  obtain ⟨b1, ⟨⟨b2⟩⟩⟩ := b
  by_cases h1 : a1 = b1 <;> by_cases h2 : a2 = b2 <;> simp [litsEq, litEq, calL, h1, h2]
/-- The entries of a map of names. -/
def Ents : List MapEntry → List Cal → Prop
  | [], [] => True
  | e :: es, c :: cs => (e.key = calV c ∧ ∃ v, e.val = .int .i64 v) ∧ Ents es cs
  | _, _ => False
theorem Ents.snoc : ∀ {es : List MapEntry} {cs : List Cal} {e : MapEntry} {c : Cal}, Ents es cs → (e.key = calV c ∧ ∃ v, e.val = .int .i64 v) → Ents (es ++ [e]) (cs ++ [c])
  | [], [], e, c, h, k => ⟨k, trivial⟩
  | x :: es, y :: cs, e, c, h, k => ⟨h.1, Ents.snoc h.2 k⟩
  | [], _ :: _, e, c, h, k => h.elim
  | _ :: _, [], e, c, h, k => h.elim
theorem findCal {k : Cal} : ∀ {es : List MapEntry} {cs : List Cal} {i : Nat}, Ents es cs → (∀ c ∈ cs, CalOk c) →
    (k ∉ cs ∧ findA Try.prog 73 (calL k) es i = some none) ∨ (k ∈ cs ∧ ∃ j v, findA Try.prog 73 (calL k) es i = some (some (j, .int .i64 v)))
  | [], [], i, h, ho => .inl ⟨by simp, rfl⟩
  | e :: es, c :: cs, i, h, ho => by
    have hk := kCal (ho c List.mem_cons_self)
    unfold findA
    rw [h.1.1, hk]
    simp only
    rw [calL_eq]
    by_cases q : k = c
    · rw [decide_eq_true q, cond_true]
      obtain ⟨v, hv⟩ := h.1.2
      exact .inr ⟨by rw [q]; exact List.mem_cons_self, i, v, by rw [hv]⟩
    · rw [decide_eq_false q, cond_false]
      rcases findCal (k := k) (i := i + 1) h.2 (fun c hc => ho c (List.mem_cons_of_mem _ hc)) with ⟨h1, h2⟩ | ⟨h1, h2⟩
      · exact .inl ⟨fun z => (List.mem_cons.1 z).elim q h1, h2⟩
      · exact .inr ⟨List.mem_cons_of_mem _ h1, h2⟩
  | [], _ :: _, i, h, ho => h.elim
  | _ :: _, [], i, h, ho => h.elim
def MapK (h : AH) (m : Nat) (cs : List Cal) : Prop := (∃ es clock, h.get m = some (.map es clock) ∧ Ents es cs) ∧ ∀ c ∈ cs, CalOk c
theorem keyTCal : keyT Try.prog 73 = true := by kernel_rfl
theorem zeroCal : zeroVal Try.prog 3 = some (.int .i64 0) := by kernel_rfl
theorem MapK.look {h : AH} {m : Nat} {cs : List Cal} (M : MapK h m cs) {k : Cal} (hk : CalOk k) : ∃ i b, aLookup Try.prog h 76 (.map (some m)) (calV k) true = some (.tuple #[.int .i64 i, .bool b]) ∧ (b = false → k ∉ cs) := by
  obtain ⟨⟨es, clock, hg, hE⟩, ho⟩ := M
  unfold aLookup
  rw [Try.underlying76]
  simp only [keyTCal, kCal hk, zeroCal, hg]
  rcases findCal (k := k) (i := 0) hE ho with ⟨h1, h2⟩ | ⟨h1, j, v, h2⟩
  · rw [h2]
    exact ⟨0, false, rfl, fun _ => h1⟩
  · rw [h2]
    exact ⟨v, true, rfl, fun z => by cases z⟩
theorem MapK.put {h : AH} {m : Nat} {cs : List Cal} (M : MapK h m cs) {k : Cal} (hk : CalOk k) (hn : k ∉ cs) (i : Int) : ∃ h', aMapUpdate Try.prog h 76 (.map (some m)) (calV k) (.int .i64 i) = some h' ∧ Near m h h' ∧ MapK h' m (cs ++ [k]) := by
  obtain ⟨⟨es, clock, hg, hE⟩, ho⟩ := M
  unfold aMapUpdate
  rw [Try.underlying76]
  simp only [keyTCal, kCal hk, hg]
  rcases findCal (k := k) (i := 0) hE ho with ⟨h1, h2⟩ | ⟨h1, j, v, h2⟩
  · rw [h2]
    refine ⟨_, rfl, near_set _ _ _, ⟨_, _, get_set_self _ _ _, hE.snoc ⟨rfl, i, rfl⟩⟩, fun c hc => ?_⟩
    rcases List.mem_append.1 hc with hc | hc
    · exact ho c hc
    · rw [List.mem_singleton.1 hc]; exact hk
  · exact absurd h1 hn
def RightP (nx : Int) (rs : List SetR) : Prop := nx ≤ 281474976710655 ∧ rs.length ≤ 32 ∧ (∀ (i : Nat) r, rs[i]? = some r → EntR r ∧ r.id < nx ∧ ∀ (j : Nat) x, i = j + 1 → rs[j]? = some x → x.id < r.id) ∧ (rs.map calK).Nodup ∧ ∀ r ∈ rs, ElderR rs r ∧ OwnerR rs r
structure KRight (K : Xs) : Prop where
  ent : KEnt K
  hang : KHang K
  right : K 13 = none
  callOf : K 45 = none
  elder : K 46 = none
  owner : K 47 = none
section
variable {K : Xs} {h : AH} {p : Option Addr} {n c : Nat} {rs : List SetR}
theorem rightSpec (kk : KRight K) (T : Sets h p n rs) (nx : Int) : Wf Try.prog K 13 [.int .u64 nx, .slice p n c] h fun v h' => ImpB v (RightP nx rs) ∧ Old h h' := by
  have hn := T.1
  refine vc_family_Right kk.right _ _ _ _ h _ ⟨fun _ => ⟨.inr rfl, Old.refl _⟩, fun z1 => ⟨fun _ => ⟨.inr rfl, Old.refl _⟩, fun z2 g0 e0 => ?_⟩⟩
  have o0 := old_of_alloc e0
  have n0 := next_of_alloc e0
  refine ⟨fun i5 i6 k g => ∃ u : Nat, i6 = u ∧ u ≤ n ∧ n - u = k ∧ Old h g ∧ h.next < g.next ∧ MapK g h.next ((rs.take u).map calK) ∧ ((rs.take u).map calK).Nodup ∧
    (∀ (i : Nat) r, i < u → rs[i]? = some r → EntR r ∧ r.id < nx ∧ ∀ (j : Nat) x, i = j + 1 → rs[j]? = some x → x.id < r.id) ∧ (∀ (j : Nat) x, u = j + 1 → rs[j]? = some x → i5 = x.id), ⟨_, 0, rfl, Nat.zero_le _, rfl, o0, by omega, ⟨⟨_, _, get_of_alloc e0, trivial⟩, fun c hc => by cases hc⟩, List.nodup_nil, fun i r hi => absurd hi (Nat.not_lt_zero _), fun j x hj => by omega⟩, ?_⟩
  rintro k2 g3 i5 i6 ⟨u, rfl, hu, rfl, o3, l3, M3, nd3, hall, hlast⟩
  refine ⟨fun z => ?_, fun z => ?_⟩
  · obtain ⟨b, off, rfl, hi', hl, h1, ok⟩ := (T.old o3).at (i := u) (by omega)
    have hru := List.getElem?_eq_getElem hi'
    have hTu : (rs.take (u + 1)).map calK = (rs.take u).map calK ++ [calK rs[u]] := by rw [List.take_succ_eq_append_getElem hi', List.map_append]; rfl
    have hcall : ∀ {g : AH}, Old h g → Wf Try.prog K 45 [.pointer (some ⟨b, off + u * 11, none⟩)] g fun v h' => v = .agg #[.int .u64 (calK rs[u]).1, .string (calK rs[u]).2] ∧ Old g h' := fun o => callOfSpec kk.callOf (T.old o) (by omega) hi'
    refine derefP_at ⟨by omega, z, _, _, _, _, _, _, _, _, _, _, _, _, _, by rw [Int.toNat_natCast]; exact hl, (entRight kk.ent ok).mono ?_⟩
    have hat : ∀ {g : AH}, Old h g → ∀ (j : Nat) v, (setC rs[u])[j]? = some v → ld1 g b (off + u * 11 + j) = some v := fun o j v hj => by
      obtain ⟨hi3, hl3, h2, ok3⟩ := (T.old o).at' (i := u) (by omega)
      exact h2 j v hj
    generalize rs[u] = r at h1 ok hru hTu hcall hat
    rintro _ g23 ⟨⟨rfl, kE⟩ | ⟨rfl, -⟩, o23⟩
    rotate_left
    · exact .inr ⟨rfl, .inr rfl, o3.trans o23⟩
    have o23' := o3.trans o23
    have id23 := hat o23' 0 _ rfl
    refine .inl ⟨rfl, _, by rw [Int.toNat_natCast]; exact id23, fun a => ⟨.inr rfl, o23'⟩, fun a => ⟨_, by rw [Int.toNat_natCast]; exact id23, fun y => ⟨.inr rfl, o23'⟩, fun y => ⟨_, by rw [Int.toNat_natCast]; exact id23, ?_⟩⟩⟩
    rw [Int.toNat_natCast]
    refine (hcall o23').mono ?_
    rintro _ g28 ⟨rfl, o28⟩
    refine ⟨_, _, rfl, fun g31 e31 => ?_⟩
    obtain ⟨g32, k32, n32, o32, v32⟩ := put_new e31 (vs := [.int .u64 (calK r).1, .string (calK r).2]) rfl
    have w32 := v32 [] (fun c hc => by cases hc)
    have hck : CalOk (calK r) := by
      have hsz := kE.2.2.2.2.1.2.1
      refine ⟨?_, ?_⟩
      · unfold calK
        simp only
        split
        · exact ok.own
        · decide
      · show r.name.size ≤ maxLen
        simp only [maxLen]
        omega
    have om : Old g3 g32 := (o23.trans o28).trans o32
    have M32 : MapK g32 h.next ((rs.take u).map calK) := ⟨by
      obtain ⟨⟨es, clock, hg, hE⟩, -⟩ := M3
      exact ⟨es, clock, by rw [om.2 _ l3]; exact hg, hE⟩, M3.2⟩
    obtain ⟨i35, b36, hlk, hb36⟩ := M32.look hck
    refine ⟨rfl, g32, k32, _, _, w32.ld rfl, i35, b36, hlk, ?_⟩
    cases b36 with
    | true => exact ⟨.inr rfl, o3.trans om⟩
    | false =>
      have hni := hb36 rfl
      obtain ⟨g39, k39, nr39, M39⟩ := M32.put hck hni (u : Int)
      refine ⟨_, _, w32.ld rfl, g39, k39, fun i40 e40 => ?_⟩
      have e40 := i64w e40 (by omega) (by omega)
      refine ⟨n - (u + 1), by omega, u + 1, by omega, by omega, rfl, ⟨by rw [nr39.1]; exact (o3.trans om).1, fun c hc => by rw [nr39.2 c (by omega), (o3.trans om).2 c hc]⟩, by rw [nr39.1]; have := om.1; omega, by rw [hTu]; exact M39, ?_, fun i r' hi hr' => ?_, fun j x hj hx => ?_⟩
      · rw [hTu, List.nodup_append]
        exact ⟨nd3, by simp, fun a ha b hb => by rw [List.mem_singleton.1 hb]; exact fun e => hni (by rw [← e]; exact ha)⟩
      · rcases Nat.lt_succ_iff_lt_or_eq.1 hi with hi | rfl
        · exact hall i r' hi hr'
        · rw [hru] at hr'
          cases hr'
          refine ⟨kE, by omega, fun j x hj hx => ?_⟩
          have := hlast j x hj hx
          omega
      · obtain rfl : j = u := by omega
        rw [hru] at hx
        cases hx
        rfl
  · obtain rfl : u = n := by omega
    refine ⟨fun i k g => ∃ v : Nat, i = v ∧ v ≤ u ∧ u - v = k ∧ Old h g ∧ ∀ (j : Nat) r, j < v → rs[j]? = some r → ElderR rs r ∧ OwnerR rs r, ⟨_, 0, rfl, Nat.zero_le _, rfl, o3, fun j r hj => absurd hj (Nat.not_lt_zero _)⟩, ?_⟩
    rintro k42 g43 i45 ⟨v, rfl, hv, rfl, o43, hb⟩
    refine ⟨fun y => ?_, fun y => ?_⟩
    · have hvn : v < u := by omega
      obtain ⟨b, off, rfl⟩ := T.some (by omega)
      have hvr : v < rs.length := by omega
      refine derefP_at ⟨by omega, y, ?_⟩
      rw [Int.toNat_natCast]
      refine (elderSpec kk.elder kk.hang.place (T.old o43) hvn hvr).mono ?_
      rintro _ g49 ⟨⟨rfl, kE⟩ | rfl, o49⟩
      rotate_left
      · exact .inr ⟨rfl, .inr rfl, o43.trans o49⟩
      refine .inl ⟨rfl, derefP_at ⟨by omega, y, ?_⟩⟩
      refine (ownerSpec kk.owner kk.hang (T.old (o43.trans o49)) hvn hvr).mono ?_
      rintro _ g53 ⟨⟨rfl, kO⟩ | rfl, o53⟩
      rotate_left
      · exact .inr ⟨rfl, .inr rfl, (o43.trans o49).trans o53⟩
      refine .inl ⟨rfl, fun i54 e54 => ?_⟩
      have e54 := i64w e54 (by omega) (by omega)
      refine ⟨u - (v + 1), by omega, v + 1, by omega, by omega, rfl, (o43.trans o49).trans o53, fun j r hj hr => ?_⟩
      rcases Nat.lt_succ_iff_lt_or_eq.1 hj with hj | rfl
      · exact hb j r hj hr
      · rw [List.getElem?_eq_getElem hvr] at hr
        cases hr
        exact ⟨kE, kO⟩
    · have hlt : ∀ {i : Nat} {r : SetR}, rs[i]? = some r → i < u := fun hr => by have := (List.getElem?_eq_some_iff.1 hr).1; omega
      rw [List.take_of_length_le (by omega)] at nd3
      refine ⟨.inl ⟨rfl, by omega, by omega, fun i r hr => hall i r (hlt hr) hr, nd3, fun r hr => ?_⟩, o43⟩
      obtain ⟨j, hj⟩ := List.mem_iff_getElem?.1 hr
      exact hb j r (by have := hlt hj; omega) hj
end
end Go.Am
