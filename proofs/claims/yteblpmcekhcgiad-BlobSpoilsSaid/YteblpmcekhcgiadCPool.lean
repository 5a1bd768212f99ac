/-
  A PILE AS A POOL OF BLOCKS: what lies where a pointer says; what is put.
-/
import Derived.Test.YteblpmcekhcgiadCNode
set_option linter.unusedVariables false
set_option linter.unusedSimpArgs false
set_option maxRecDepth 100000
namespace Go.Am
open Go.Proofs
abbrev hole : Tr3 := (0, 0, 0)
/-- Bytes lie where a pointer says. -/
def Lies (nw : List (List Nat)) (M : List Nat) (q : Tr3) (s : List Nat) : Prop :=
  (q = hole ∧ s = List.replicate 128 0) ∨ (q ≠ hole ∧ QOk q ∧ q.2.2 = crcOf s ∧ nw[q.1]? = some s ∧ M[q.1]? = some 2 ∧ Sec s)
/-- What is taken stays as it is. -/
def Stay (nw : List (List Nat)) (M : List Nat) (nw' : List (List Nat)) (M' : List Nat) : Prop := ∀ s : Nat, M[s]? = some 2 → nw'[s]? = nw[s]? ∧ M'[s]? = some 2
theorem Stay.refl (nw : List (List Nat)) (M : List Nat) : Stay nw M nw M := fun s h => ⟨rfl, h⟩
theorem Stay.trans {n1 n2 n3 : List (List Nat)} {M1 M2 M3 : List Nat} (a : Stay n1 M1 n2 M2) (b : Stay n2 M2 n3 M3) : Stay n1 M1 n3 M3 := fun s h => ⟨(b s (a s h).2).1.trans (a s h).1, (b s (a s h).2).2⟩
theorem Lies.ext {nw nw' : List (List Nat)} {M M' : List Nat} {q : Tr3} {s : List Nat} (l : Lies nw M q s) (x : Stay nw M nw' M') : Lies nw' M' q s := by
  rcases l with l | ⟨h1, h2, h3, h4, h5, h6⟩
  · exact .inl l
  · exact .inr ⟨h1, h2, h3, (x _ h5).1.trans h4, (x _ h5).2, h6⟩
theorem Lies.ok {nw : List (List Nat)} {M : List Nat} {q : Tr3} {s : List Nat} (l : Lies nw M q s) : QOk q := by
  rcases l with ⟨rfl, -⟩ | l
  · exact hole_ok
  · exact l.2.1
/-- Bytes are put. -/
def Puts (nw : List (List Nat)) (M : List Nat) (st : Nat) (q : Tr3) (s : List Nat) (nw' : List (List Nat)) (M' : List Nat) : Prop := ∃ i, M[i]? = some 1 ∧ 4 ≤ i ∧ i < nw.length ∧ q = (i, st, crcOf s) ∧ nw' = nw.set i s ∧ M' = M.set i 2
theorem Puts.ext {nw nw' : List (List Nat)} {M M' : List Nat} {st : Nat} {q : Tr3} {s : List Nat} (k : Puts nw M st q s nw' M') : Stay nw M nw' M' := by
  obtain ⟨i, h1, h4, h2, rfl, rfl, rfl⟩ := k
  intro s h
  have hne : i ≠ s := fun e => by rw [e, h] at h1; cases h1
  exact ⟨by rw [List.getElem?_set, if_neg hne], by rw [List.getElem?_set, if_neg hne]; exact h⟩
def StOk (st : Nat) : Prop := 1 ≤ st ∧ st ≤ 281474976710655
theorem Puts.lies {nw nw' : List (List Nat)} {M M' : List Nat} {st : Nat} {q : Tr3} {s : List Nat} (k : Puts nw M st q s nw' M') (hn : nw.length ≤ 1024) (hs : Sec s) (hst : StOk st) : Lies nw' M' q s ∧ q ≠ hole := by
  obtain ⟨i, h1, h4, h2, rfl, rfl, rfl⟩ := k
  have hi := (List.getElem?_eq_some_iff.1 h1).1
  have hne : ((i, st, crcOf s) : Tr3) ≠ hole := fun e => by simp only [hole, Prod.mk.injEq] at e; omega
  exact ⟨.inr ⟨hne, ⟨crcOf_lt hs.2, .inr ⟨h4, Nat.lt_of_lt_of_le h2 hn, hst.1, hst.2⟩⟩, rfl, by rw [List.getElem?_set, if_pos rfl, if_pos h2], by rw [List.getElem?_set, if_pos rfl, if_pos hi], hs⟩, hne⟩
section
variable {K : Xs} {h : AH} {p : Nat} {F : List Nat} {d m : Nat} {W : Nat} {nw : List (List Nat)} {M : List Nat} {st : Nat} {ba : Int}
/-- A pile, and which blocks are its own. -/
def PO (h : AH) (p : Nat) (F : List Nat) (d m : Nat) (W : Nat) (nw : List (List Nat)) (M : List Nat) (st : Nat) (ba : Int) : Prop := ∃ Fd, PileO h p F d m Fd W nw M st ba
theorem PO.old {h' : AH} (B : PO h p F d m W nw M st ba) (o : Old h h') : PO h' p F d m W nw M st ba := B.imp fun _ z => z.old o
theorem PO.nearN {h' : AH} {b : Nat} (B : PO h p F d m W nw M st ba) (n : Near b h h') (hb : b ∉ F) : PO h' p F d m W nw M st ba := B.imp fun _ z => z.nearN n hb
theorem PO.lt (B : PO h p F d m W nw M st ba) : ∀ c ∈ F, c < h.next := by obtain ⟨Fd, B⟩ := B; exact B.mem_lt
theorem PO.puts {Fd F' : List Nat} {i : Nat} {s : List Nat} (B : PO h p F d m W nw M st ba) (hi : M[i]? = some 1) (hl : i < nw.length) : 4 ≤ i := by
  obtain ⟨Fd, B⟩ := B
  exact (B.within i 1 hi (by decide)).1
theorem poolGet (kG : K 16 = none) (dR : K 14 = none) (dc : K 27 = none) (dh : K 28 = none) (sO : K 29 = none) (sM : K 38 = some (.sum xMore))
    (B : PO h p F d m W nw M st ba) {q : Tr3} {s : List Nat} (l : Lies nw M q s) :
    Wf Try.prog K 16 [.pointer (some ⟨p, 0, none⟩), qV q] h fun v h' => v = .tuple #[.agg (secC s).toArray, .int .i64 0] ∧ PO h' p F d m W nw M st ba ∧ Fr F h h' F := by
  obtain ⟨Fd, B⟩ := B
  refine (pileGet kG dR dc dh sO sM B l.ok.wf).mono ?_
  rintro v g ⟨P, f, hv⟩
  refine ⟨?_, ⟨Fd, P⟩, f⟩
  rcases l with ⟨rfl, rfl⟩ | ⟨h1, h2, h3, h4, h5, h6⟩
  · rcases hv with ⟨-, -, -, rfl⟩ | ⟨z, -⟩ | ⟨z, -⟩
    · rfl
    · exact absurd ⟨rfl, rfl, rfl⟩ z
    · exact absurd ⟨rfl, rfl, rfl⟩ z
  · rcases hv with ⟨z1, z2, z3, -⟩ | ⟨-, t, -, z3, -, rfl⟩ | ⟨-, z2, -⟩
    · exact absurd (Prod.ext (by simpa using z1) (Prod.ext (by simpa using z2) (by simpa using z3))) h1
    · rw [Int.toNat_natCast, h4] at z3
      cases z3
      rfl
    · exact absurd (by rw [h3]) (z2 s (by omega) (by rw [Int.toNat_natCast]; exact h4))
theorem blk_full {s : List Nat} (hs : Sec s) : blkOf s = s := by unfold blkOf; rw [hs.1]; simp
end
end Go.Am
