/-
  A BLOCK IS WRITTEN TO A SECTOR THAT IS TAKEN.
-/
import Derived.Test.YteblpmcekhcgiadCTaken
set_option linter.unusedVariables false
set_option linter.unusedSimpArgs false
namespace Go.Am
open Go.Proofs
section
variable {K : Xs} {h : AH} {p : Nat} {F : List Nat} {d m : Nat} {Fd : List Nat} {W : Nat} {nw : List (List Nat)} {M : List Nat} {st ba : Int}
theorem mapTaken (hk : K 41 = none) (ha : K 47 = some (.sum (xAll 115))) (B : MapO h m M) :
    Wf Try.prog K 41 [.pointer (some ⟨m, 0, none⟩)] h fun v h' => SetAt h' v (fun x => M[x]? = some 2) ∧ Old h h' := by
  refine vc_slab_Map_Taken hk _ h _ ((mapAll ha B 2).mono ?_)
  rintro v g ⟨⟨p, n, c, sp, rfl, q⟩, o⟩
  exact ⟨p, n, c, rfl, ⟨p, n, c, sp, rfl, q⟩, o⟩
theorem pilePutAt (hk : K 34 = none) (kT : K 41 = none) (kA : K 47 = some (.sum (xAll 115))) (kH : K 40 = none) (kE : K 46 = none) (kE1 : K 53 = none) (kR : K 54 = none) (kS : K 58 = none)
    (hw0 : K 42 = none) (hW : K 48 = none) (h1 : K 27 = none) (h2 : K 28 = none) (h3 : K 56 = none) (hS : K 29 = none) (hM : K 38 = some (.sum xMore))
    (B : PileO h p F d m Fd W nw M st ba) (hw : W < 100000) (i : Nat) {pp : Option Addr} {n c : Nat} {data : List Nat} (hd : Shows h pp n 1 (natC .u8 data)) (hpp : pp = none ∨ ∃ b off, pp = some ⟨b, off, none⟩) (hb : ∀ x ∈ data, x < 256) :
    Wf Try.prog K 34 [.pointer (some ⟨p, 0, none⟩), .int .i64 i, .slice pp n c] h fun v h' =>
      (128 < data.length ∧ v = .tuple #[.agg #[.int .i64 0, .int .u64 0, .int .u32 0], .int .i64 92] ∧ PileO h' p F d m Fd W nw M st ba ∧ Fr F h h' F) ∨
      (data.length ≤ 128 ∧ M[i]? = some 2 ∧ v = .tuple #[.agg #[.int .i64 i, .int .u64 st, .int .u32 (crcOf (blkOf data) : Nat)], .int .i64 0] ∧
        ∃ Fd', PileO h' p (p :: m :: Fd') d m Fd' (W + 1) (nw.set i (blkOf data)) M st ba ∧ Fr F h h' (p :: m :: Fd')) ∨
      (data.length ≤ 128 ∧ M[i]? ≠ some 2 ∧ v = .tuple #[.agg #[.int .i64 0, .int .u64 0, .int .u32 0], .int .i64 72] ∧ PileO h' p F d m Fd W nw M st ba ∧ Fr F h h' F) := by
  have hnd : n = data.length := by have := hd.1; rw [natC_len] at this; omega
  refine vc_pile_Pile_PutAt hk _ _ _ _ _ h _ fun g0 e0 => ?_
  have o0 : Old h g0 := old_of_alloc e0
  have n0 : g0.next = h.next + 1 := next_of_alloc e0
  have B0 := B.old o0
  have hF := B.mem_lt
  have nFh : h.next ∉ F := fun q => absurd (hF _ q) (by omega)
  have ch : g0.get h.next = some (.cells [.int .i64 0, .int .u64 0, .int .u32 0] 36 false) := get_of_alloc e0
  have f0 : Fr F h g0 F := o0.fr F
  refine ⟨fun q => ⟨rfl, _, stN_all ch rfl, _, _, _, ldN_all (get_set_self _ _ _) rfl, .inl ⟨by omega, rfl, B0.nearN (near_set _ _ _) nFh, f0.near_new (near_set _ _ _) (Nat.le_refl _)⟩⟩, fun q => ?_⟩
  have hl : data.length ≤ 128 := by omega
  refine derefP_at ⟨_, ld1_at B0.cell rfl, (mapTaken kT kA B0.map).mono ?_⟩
  rintro v g9 ⟨⟨p9, n9, c9, sp, rfl, -, z2, z3, z4, z5⟩, o9⟩
  refine ⟨_, _, _, rfl, (spanHas kH kE kE1 kR kS z2 z3 z4 i).mono ?_⟩
  rintro _ g14 ⟨rfl, o14⟩
  have o := (o0.trans o9).trans o14
  have l9 := o9.1
  have l14 := o14.1
  have c14 : g14.get h.next = _ := (o14.2 _ (by omega)).trans ((o9.2 _ (by omega)).trans ch)
  have B14 := B.old o
  by_cases hx : i ∈ exN sp
  · have hM2 := (z5 i).1 hx
    have hiN := (B.within i 2 hM2 (by decide)).2
    refine .inl ⟨by simp [hx], (pileWrite hw0 hW h1 h2 h3 hS hM B14 hw hiN (hd.old o) hpp hl hb).mono ?_⟩
    rintro v g16 ⟨rfl, Fd', B16, f16⟩
    have c16 : g16.get h.next = _ := (f16.2.1 _ (by omega) nFh).trans c14
    have nF16 : h.next ∉ (p :: m :: Fd') := fun q2 => (f16.2.2 _ q2).elim nFh (fun z => by omega)
    exact ⟨_, _, _, _, rfl, rfl, _, stN_all c16 rfl, _, _, _, ldN_all (get_set_self _ _ _) rfl, .inr (.inl ⟨hl, hM2, rfl, Fd', B16.nearN (near_set _ _ _) nF16, ((o.fr F).trans f16).near_new (near_set _ _ _) (Nat.le_refl _)⟩)⟩
  · exact .inr ⟨by simp [hx], rfl, _, stN_all c14 rfl, _, _, _, ldN_all (get_set_self _ _ _) rfl, .inr (.inr ⟨hl, fun z => hx ((z5 i).2 z), rfl, B14.nearN (near_set _ _ _) nFh, (o.fr F).near_new (near_set _ _ _) (Nat.le_refl _)⟩)⟩
end
end Go.Am
