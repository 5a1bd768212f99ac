/-
  POINTERS AND NODES AS BYTES, and back.
-/
import Derived.Test.YteblpmcekhcgiadCBlock
import Derived.Test.YteblpmcekhcgiadVNode
set_option linter.unusedVariables false
set_option linter.unusedSimpArgs false
set_option maxRecDepth 100000
namespace Go.Am
open Go.Proofs
theorem sum_le8 : ∀ {ws : List Nat}, (∀ w ∈ ws, w ≤ 8) → ws.sum ≤ 8 * ws.length
  | [], _ => Nat.le_refl _
  | w :: ws, h => by
    have h1 := h w (by simp)
    have h2 := sum_le8 (ws := ws) fun x hx => h x (by simp [hx])
    simp only [List.sum_cons, List.length_cons]
    omega
theorem eU8 : ElemOk Try.prog 22 5 1 1 := ElemOk_of (by kernel_rfl)
theorem eU64 : ElemOk Try.prog 110 33 1 8 := ElemOk_of (by kernel_rfl)
section
variable {K : Xs} {h : AH}
theorem fieldRoom (hk : K 57 = none) {p : Option Addr} {n c : Nat} {ws : List Nat} (hs : Shows h p n 1 (natC .i64 ws)) (hw : ∀ w ∈ ws, 1 ≤ w ∧ w ≤ 8) (hl : ws.length ≤ 1000) :
    Wf Try.prog K 57 [.slice p n c] h fun v h' => v = .tuple #[.int .i64 (ws.sum : Nat), .bool true] ∧ h = h' := by
  have hn : n = ws.length := by have := hs.1; rw [natC_len] at this; omega
  subst hn
  refine vc_field_room hk _ _ _ h _ ⟨fun i4 i5 k g => ∃ j : Nat, i5 = j ∧ i4 = ((ws.take j).sum : Nat) ∧ j ≤ ws.length ∧ ws.length - j = k ∧ h = g, ⟨_, 0, rfl, rfl, Nat.zero_le _, rfl, rfl⟩, ?_⟩
  rintro k g i4 i5 ⟨j, rfl, rfl, hj, rfl, rfl⟩
  refine ⟨fun q => ?_, fun q => ⟨by rw [List.take_of_length_le (by omega)], rfl⟩⟩
  have hj' : j < ws.length := by omega
  obtain ⟨b, off, rfl, hld⟩ := hs.get hj'
  rw [natC_get hj'] at hld
  have hw1 := hw _ (List.getElem_mem hj')
  have s1 := sum_take hj'
  have s2 := sum_take_le ws (j + 1)
  have s3 := sum_le8 fun w hx => (hw w hx).2
  refine derefP_at ⟨by omega, q, _, by rw [Int.toNat_natCast, Nat.mul_one]; exact hld, fun z => absurd z (by omega), fun _ => ⟨fun z => absurd z (by omega), fun _ i9 e9 i10 e10 => ?_⟩⟩
  have e10 := i64w e10 (by omega) (by omega)
  have e9 := i64w e9 (by omega) (by omega)
  exact ⟨_, by omega, j + 1, by rw [e10]; rfl, by rw [e9, s1]; rfl, hj', rfl, rfl⟩
theorem wrapN_byte (n : Nat) : IntKind.wrap .u8 (n : Int) = ((n % 256 : Nat) : Int) := wrapN_u8 n
theorem fieldPut (hk : K 50 = none) (kr : K 57 = none) {p q : Option Addr} {n m c c' : Nat} {ws ns : List Nat} (hs : Shows h p n 1 (natC .i64 ws)) (ht : Shows h q m 1 (natC .u64 ns)) (hw : ∀ w ∈ ws, 1 ≤ w ∧ w ≤ 8) (hl : ws.length ≤ 1000) (hlen : ws.length = ns.length)
    (hfit : ∀ (i w x : Nat), ws[i]? = some w → ns[i]? = some x → x < 256 ^ w) :
    Wf Try.prog K 50 [.slice p n c, .slice q m c'] h fun v h' => (∃ b, v = .tuple #[.slice (some ⟨b, 0, none⟩) ws.sum ws.sum, .int .i64 0] ∧ h.next ≤ b ∧ Shows h' (some ⟨b, 0, none⟩) ws.sum 1 (natC .u8 (enc ws ns))) ∧ Old h h' := by
  have hn : n = ws.length := by have := hs.1; rw [natC_len] at this; omega
  have hm : m = ns.length := by have := ht.1; rw [natC_len] at this; omega
  subst hn
  subst hm
  have s3 := sum_le8 fun w hx => (hw w hx).2
  refine vc_field_Put hk _ _ _ _ _ _ h _ ((fieldRoom kr hs hw hl).mono ?_)
  rintro _ _ ⟨rfl, rfl⟩
  refine ⟨_, .inl ⟨rfl, fun _ => ?_, fun z => absurd (show ((ns.length : Nat) : Int) = ((ws.length : Nat) : Int) by omega) z⟩⟩
  refine ⟨fun i k g => ∃ j : Nat, i = j ∧ j ≤ ns.length ∧ ns.length - j = k ∧ h = g, ⟨_, 0, rfl, Nat.zero_le _, rfl, rfl⟩, ?_⟩
  rintro k g i ⟨j, rfl, hj, rfl, rfl⟩
  refine ⟨fun z => ?_, fun z => ⟨⟨by omega, by omega, by omega, by omega⟩, fun g17 e17 => ?_⟩⟩
  · have hj' : j < ns.length := by omega
    have hjw : j < ws.length := by omega
    obtain ⟨b, off, rfl, hld⟩ := hs.get hjw
    obtain ⟨b2, off2, rfl, hld2⟩ := ht.get hj'
    rw [natC_get hjw] at hld
    rw [natC_get hj'] at hld2
    have hw1 := hw _ (List.getElem_mem hjw)
    have hf := hfit j _ _ (List.getElem?_eq_getElem hjw) (List.getElem?_eq_getElem hj')
    refine derefP_at ⟨by omega, z, _, by rw [Int.toNat_natCast, Nat.mul_one]; exact hld2, derefP_at ⟨by omega, by omega, _, by rw [Int.toNat_natCast, Nat.mul_one]; exact hld, fun i14 e14 => ?_⟩⟩
    have e14 := i64w e14 (by omega) (by omega)
    refine ⟨0, ?_, fun _ i16 e16 => ?_, fun y => absurd rfl y⟩
    · rw [e14, show (8 : Int) * ((ws[j] : Nat) : Int) = ((8 * ws[j] : Nat) : Int) by omega, shr_u64 hw1.2, Nat.div_eq_of_lt hf]
      rfl
    · have e16 := i64w e16 (by omega) (by omega)
      exact ⟨_, by omega, j + 1, by rw [e16]; rfl, hj', rfl, rfl⟩
  have o17 := old_of_alloc e17
  have hg0 : GrowC h.next g17 5 1 h.next 0 ws.sum [] := GrowC.make e17 (by rw [Int.toNat_natCast]; simp) (by simp only [openCap]; omega)
  refine ⟨fun p n c i k g => ∃ j : Nat, i = j ∧ j ≤ ns.length ∧ ns.length - j = k ∧ p = some ⟨h.next, 0, none⟩ ∧ c = ws.sum ∧ Old h g ∧ GrowC h.next g 5 1 h.next n ws.sum (natC .u8 (enc (ws.take j) (ns.take j))), ⟨_, 0, rfl, Nat.zero_le _, rfl, rfl, Int.toNat_natCast _, o17, hg0⟩, ?_⟩
  rintro k20 g20 p22 n23 c24 i25 ⟨j, rfl, hj, rfl, rfl, rfl, o20, G20⟩
  refine ⟨fun z => ?_, fun z => ?_⟩
  · have hj' : j < ns.length := by omega
    have hjw : j < ws.length := by omega
    obtain ⟨b, off, rfl, hld⟩ := (hs.old o20).get hjw
    obtain ⟨b2, off2, rfl, hld2⟩ := (ht.old o20).get hj'
    rw [natC_get hjw] at hld
    rw [natC_get hj'] at hld2
    have hw1 := hw _ (List.getElem_mem hjw)
    have s1 := sum_take hjw
    have s2 := sum_take_le ws (j + 1)
    have tl : (ws.take j).length = (ns.take j).length := by simp; omega
    have e1 : enc (ws.take (j + 1)) (ns.take (j + 1)) = enc (ws.take j) (ns.take j) ++ byB ws[j] ns[j] := by
      rw [List.take_succ_eq_append_getElem hjw, List.take_succ_eq_append_getElem hj', enc_app _ _ _ _ tl]
    refine derefP_at ⟨by omega, z, _, by rw [Int.toNat_natCast, Nat.mul_one]; exact hld2, derefP_at ⟨by omega, by omega, _, by rw [Int.toNat_natCast, Nat.mul_one]; exact hld, ?_⟩⟩
    generalize hwj : ws[j] = w at hw1 s1 e1
    generalize hnj : ns[j] = x at e1
    refine ⟨fun p n c i k g => ∃ t : Nat, i = t ∧ t ≤ w ∧ w - t = k ∧ p = some ⟨h.next, 0, none⟩ ∧ c = ws.sum ∧ Old h g ∧ GrowC h.next g 5 1 h.next n ws.sum (natC .u8 (enc (ws.take j) (ns.take j) ++ byB t x)), ⟨_, 0, rfl, Nat.zero_le _, rfl, rfl, rfl, o20, by simpa [byB] using G20⟩, ?_⟩
    rintro k34 g34 p36 n37 c38 i39 ⟨t, rfl, ht', rfl, rfl, rfl, o34, G34⟩
    have hn37 : n37 = (ws.take j).sum + t := by
      have := G34.1
      rw [natC_len, List.length_append, byB_len, enc_len _ _ tl] at this
      omega
    refine ⟨fun y => ?_, fun y => ?_⟩
    · intro i40 e40
      have e40 := i64w e40 (by omega) (by omega)
      refine ⟨((x / 256 ^ t : Nat) : Int), ?_, fun i42 e42 g43 e43 => ?_⟩
      · rw [e40, show (8 : Int) * (t : Int) = ((8 * t : Nat) : Int) by omega, shr_u64 (by omega)]
      rw [wrapN_u8] at e42
      subst e42
      obtain ⟨g47, k47, G47, n47, f47⟩ := G34.push eU8 (ns := [.int .u8 ((x / 256 ^ t % 256 : Nat) : Int)]) e43 rfl (by decide) (by omega)
      refine ⟨_, _, _, g47, k47, fun i48 e48 => ?_⟩
      have e48 := i64w e48 (by omega) (by omega)
      refine ⟨_, by omega, t + 1, by rw [e48]; rfl, by omega, rfl, rfl, rfl, ⟨by rw [n47]; have := o34.1; omega, fun b hb => ?_⟩, ?_⟩
      · rw [f47 b (by have := o34.1; omega) (by omega), o34.2 b hb]
      · rw [byB_succ, ← List.append_assoc, natC_app]
        exact G47
    · intro i49 e49
      have e49 := i64w e49 (by omega) (by omega)
      have htw : t = w := by omega
      subst htw
      exact ⟨_, by omega, j + 1, by rw [e49]; rfl, hj', rfl, rfl, rfl, o34, by rw [e1]; exact G34⟩
  · have hjn : j = ns.length := by omega
    have e1 : ws.take j = ws := List.take_of_length_le (by omega)
    have e2 : ns.take j = ns := List.take_of_length_le (by omega)
    rw [e1, e2] at G20
    have hn23 : n23 = ws.sum := by have := G20.1; rw [natC_len, enc_len _ _ hlen] at this; omega
    subst hn23
    exact ⟨⟨_, rfl, Nat.le_refl _, G20.shows⟩, o20⟩
theorem fieldGet (hk : K 52 = none) (kr : K 57 = none) {p : Option Addr} {n m c c' b off : Nat} {ws bs : List Nat} (hs : Shows h p n 1 (natC .i64 ws)) (ht : Shows h (some ⟨b, off, none⟩) m 1 (natC .u8 bs)) (hb : b < h.next) (hc : CutOk Try.prog h 5 b m c') (hw : ∀ w ∈ ws, 1 ≤ w ∧ w ≤ 8) (hl : ws.length ≤ 1000)
    (hbs : ∀ x ∈ bs, x < 256) (hlen : bs.length = ws.sum) :
    Wf Try.prog K 52 [.slice p n c, .slice (some ⟨b, off, none⟩) m c'] h fun v h' => (∃ b', v = .tuple #[.slice (some ⟨b', 0, none⟩) ws.length ws.length, .int .i64 0] ∧ h.next ≤ b' ∧ Shows h' (some ⟨b', 0, none⟩) ws.length 1 (natC .u64 (dec ws bs))) ∧ Old h h' := by
  have hn : n = ws.length := by have := hs.1; rw [natC_len] at this; omega
  have hm : m = bs.length := by have := ht.1; rw [natC_len] at this; omega
  subst hn
  have s3 := sum_le8 fun w hx => (hw w hx).2
  refine vc_field_Get hk _ _ _ _ _ _ h _ ((fieldRoom kr hs hw hl).mono ?_)
  rintro _ _ ⟨rfl, rfl⟩
  refine ⟨_, .inl ⟨rfl, fun _ => ⟨⟨by omega, by omega, by omega, by omega⟩, fun g3 e3 => ?_⟩, fun z => absurd (show ((m : Nat) : Int) = ((ws.sum : Nat) : Int) by omega) z⟩⟩
  have o3 := old_of_alloc e3
  have hg0 : GrowC h.next g3 33 1 h.next 0 ws.length [] := GrowC.make e3 (by rw [Int.toNat_natCast]; simp) (by simp only [openCap]; omega)
  refine ⟨fun p8 n9 c10 p11 n12 c13 i14 k g => ∃ j off' : Nat, i14 = j ∧ j ≤ ws.length ∧ ws.length - j = k ∧ p8 = some ⟨b, off', none⟩ ∧ Shows h (some ⟨b, off', none⟩) n9 1 (natC .u8 (bs.drop (ws.take j).sum)) ∧ CutOk Try.prog h 5 b n9 c10 ∧ p11 = some ⟨h.next, 0, none⟩ ∧ c13 = ws.length ∧ Old h g ∧ GrowC h.next g 33 1 h.next n12 ws.length (natC .u64 (dec (ws.take j) bs)),
    ⟨_, 0, off, rfl, Nat.zero_le _, rfl, rfl, by simpa using ht, hc, rfl, Int.toNat_natCast _, o3, hg0⟩, ?_⟩
  rintro k5 g6 p8 n9 c10 p11 n12 c13 i14 ⟨j, off', rfl, hj, rfl, rfl, S9, C9, rfl, rfl, o6, G6⟩
  have hn9 : n9 = bs.length - (ws.take j).sum := by have := S9.1; rw [natC_len, List.length_drop] at this; omega
  refine ⟨fun z => ?_, fun z => ?_⟩
  · have hj' : j < ws.length := by omega
    obtain ⟨b1, off1, rfl, hld⟩ := (hs.old o6).get hj'
    rw [natC_get hj'] at hld
    have hw1 := hw _ (List.getElem_mem hj')
    have s1 := sum_take hj'
    have s2 := sum_take_le ws (j + 1)
    have e1 : dec (ws.take (j + 1)) bs = dec (ws.take j) bs ++ [deB ((bs.drop (ws.take j).sum).take ws[j])] := by
      rw [List.take_succ_eq_append_getElem hj', dec_app]
    refine derefP_at ⟨by omega, z, _, by rw [Int.toNat_natCast, Nat.mul_one]; exact hld, ?_⟩
    generalize ws[j] = w at hw1 s1 e1
    have hbd : ∀ x ∈ bs.drop (ws.take j).sum, x < 256 := fun x hx => hbs x (List.mem_of_mem_drop hx)
    have hbl : (bs.drop (ws.take j).sum).length = n9 := by rw [List.length_drop]; omega
    have e2 : bs.drop (ws.take (j + 1)).sum = (bs.drop (ws.take j).sum).drop w := by rw [List.drop_drop, s1]
    generalize bs.drop (ws.take j).sum = cs at S9 e1 hbd hbl e2
    refine ⟨fun i22 i23 k g => ∃ t : Nat, i23 = t ∧ t ≤ w ∧ w - t = k ∧ i22 = (deB (cs.take t) : Nat) ∧ g6 = g, ⟨_, 0, rfl, Nat.zero_le _, rfl, rfl, rfl⟩, ?_⟩
    rintro k19 g20 i22 i23 ⟨t, rfl, ht', rfl, rfl, rfl⟩
    refine ⟨fun y => ?_, fun y => ?_⟩
    · have htc : t < cs.length := by omega
      obtain ⟨b4, off4, hb4, hld4⟩ := (S9.old o6).get (i := t) (by omega)
      simp only [Option.some.injEq, Addr.mk.injEq, and_true] at hb4
      obtain ⟨rfl, rfl⟩ := hb4
      rw [natC_get htc] at hld4
      have hx := hbd _ (List.getElem_mem htc)
      have etk : cs.take (t + 1) = cs.take t ++ [cs[t]] := List.take_succ_eq_append_getElem htc
      have hlt := deB_lt (cs.take (t + 1)) fun x hx => hbd x (List.mem_of_mem_take hx)
      have hlt0 := deB_lt (cs.take t) fun x hx => hbd x (List.mem_of_mem_take hx)
      have hp := pow256_le (show t + 1 ≤ 8 by omega)
      rw [etk, deB_app] at hlt
      simp only [List.length_append, List.length_take, List.length_cons, List.length_nil] at hlt hlt0
      rw [show min t cs.length = t by omega] at hlt hlt0
      rw [show t + (0 + 1) = t + 1 by omega] at hlt
      have edb : deB (cs.take (t + 1)) = deB (cs.take t) + cs[t] * 256 ^ t := by
        rw [etk, deB_app, List.length_take, show min t cs.length = t by omega]
      generalize deB (cs.take t) = a at hlt hlt0 edb
      generalize cs[t] = x at hld4 hx hlt edb
      refine derefP_at ⟨by omega, by omega, _, by rw [Int.toNat_natCast, Nat.mul_one]; exact hld4, fun i27 e27 i28 e28 => ?_⟩
      have e27 := u64w e27 (by omega) (by omega)
      have e28 := i64w e28 (by omega) (by omega)
      subst e27
      rw [e28, show (8 : Int) * (t : Int) = ((8 * t : Nat) : Int) by omega]
      refine ⟨_, shl_u64 (by omega) (by omega), _, or_u64 (by omega) hlt0 (by omega), fun i31 e31 => ?_⟩
      have e31 := i64w e31 (by omega) (by omega)
      exact ⟨_, by omega, t + 1, by rw [e31]; rfl, by omega, rfl, by rw [edb], rfl⟩
    · have htw : t = w := by omega
      subst htw
      intro g32 e32
      have hn12 : n12 = j := by have := G6.1; rw [natC_len, dec_len, List.length_take] at this; omega
      obtain ⟨g36, k36, G36, n36, f36⟩ := G6.push eU64 (ns := [.int .u64 ((deB (cs.take t) : Nat) : Int)]) e32 rfl (by decide) (by omega)
      have o36 : Old h g36 := ⟨by rw [n36]; have := o6.1; omega, fun x hx => by rw [f36 x (by have := o6.1; omega) (by omega), o6.2 x hx]⟩
      obtain ⟨off2, c2, k2, hoff, C2⟩ := cut_lo eU8 (by simp) (h := g36) (off := off') (lo := t) (C9.old o36 hb) (by omega)
      refine ⟨_, _, _, g36, k36, _, _, _, k2, fun i40 e40 => ?_⟩
      have e40 := i64w e40 (by omega) (by omega)
      obtain ⟨off3, c3, k3, hoff3, C3⟩ := cut_lo eU8 (by simp) (h := h) (off := off') (lo := t) C9 (by omega)
      refine ⟨_, by omega, j + 1, off2, by rw [e40]; rfl, hj', rfl, rfl, ?_, ?_, rfl, rfl, o36, ?_⟩
      · rw [e2]
        have := S9.cut (lo := t) (off2 := off2) (by omega) hoff
        rw [Nat.mul_one] at this
        unfold natC at this ⊢
        rw [← List.map_drop] at this
        exact this
      · rcases C2 with C2 | ⟨q1, cs', e', ro', q2, q3⟩
        · exact .inl C2
        · exact .inr ⟨q1, cs', e', ro', by rw [← o36.2 b hb]; exact q2, q3⟩
      · rw [e1, natC_app]
        exact G36
  · have hjn : j = ws.length := by omega
    have e1 : ws.take j = ws := List.take_of_length_le (by omega)
    rw [e1] at G6
    have hn12 : n12 = ws.length := by have := G6.1; rw [natC_len, dec_len] at this; omega
    subst hn12
    exact ⟨⟨_, rfl, Nat.le_refl _, G6.shows⟩, o6⟩
/-! ## Pointers -/
abbrev Tr3 := Nat × Nat × Nat
def qV (q : Tr3) : Value := .agg #[.int .i64 q.1, .int .u64 q.2.1, .int .u32 q.2.2]
/-- What can be a pointer. -/
def QOk (q : Tr3) : Prop := q.2.2 < 4294967296 ∧ (q = (0, 0, 0) ∨ (4 ≤ q.1 ∧ q.1 < 1024 ∧ 1 ≤ q.2.1 ∧ q.2.1 ≤ 281474976710655))
theorem QOk.wf {q : Tr3} (k : QOk q) : PtrWf (q.1 : Nat) (q.2.1 : Nat) (q.2.2 : Nat) := by
  obtain ⟨k1, k2⟩ := k
  have h1 : q.1 < 1024 := by rcases k2 with rfl | k2 <;> simp_all
  have h2 : q.2.1 ≤ 281474976710655 := by rcases k2 with rfl | k2 <;> simp_all
  unfold PtrWf
  simp [Lit.wf, IntKind.min, IntKind.max, IntKind.signed, IntKind.bits]
  omega
def ptrB (q : Tr3) : List Nat := enc [4, 8, 4] [q.1, q.2.1, q.2.2]
def ptrD (bs : List Nat) : Tr3 := (deB (bs.take 4), deB ((bs.drop 4).take 8), deB (((bs.drop 4).drop 8).take 4))
theorem dec_ptr (bs : List Nat) : dec [4, 8, 4] bs = [(ptrD bs).1, (ptrD bs).2.1, (ptrD bs).2.2] := rfl
theorem ptrB_len (q : Tr3) : (ptrB q).length = 16 := enc_len _ _ rfl
theorem ptrB_lt {q : Tr3} {x : Nat} (hx : x ∈ ptrB q) : x < 256 := enc_lt _ _ hx
theorem fits {q : Tr3} (k : QOk q) : ∀ (i w x : Nat), ([4, 8, 4] : List Nat)[i]? = some w → ([q.1, q.2.1, q.2.2] : List Nat)[i]? = some x → x < 256 ^ w := by
  obtain ⟨k1, k2⟩ := k
  have h1 : q.1 < 1024 := by rcases k2 with rfl | k2 <;> simp_all
  have h2 : q.2.1 ≤ 281474976710655 := by rcases k2 with rfl | k2 <;> simp_all
  intro i w x hw hx
  match i with
  | 0 => simp at hw hx; subst hw hx; omega
  | 1 => simp at hw hx; subst hw hx; omega
  | 2 => simp at hw hx; subst hw hx; omega
  | i + 3 => simp at hw
theorem ptrD_B {q : Tr3} (k : QOk q) : ptrD (ptrB q) = q := by
  have := dec_enc [4, 8, 4] [q.1, q.2.1, q.2.2] rfl (fits k)
  rw [show enc [4, 8, 4] [q.1, q.2.1, q.2.2] = ptrB q from rfl, dec_ptr] at this
  simp only [List.cons.injEq, and_true] at this
  obtain ⟨h1, h2, h3⟩ := this
  exact Prod.ext h1 (Prod.ext h2 h3)
theorem ptrRight' (hk : K 49 = none) {x y z : Nat} (hwf : PtrWf (x : Nat) (y : Nat) (z : Nat)) :
    Wf Try.prog K 49 [.agg #[.int .i64 (x : Nat), .int .u64 (y : Nat), .int .u32 (z : Nat)]] h fun v h' => ((v = .bool true ∧ QOk (x, y, z)) ∨ (v = .bool false ∧ ¬ QOk (x, y, z))) ∧ Old h h' := by
  refine vc_ptr_Right hk _ _ _ h _ fun g0 e0 => ?_
  have o0 := old_of_alloc e0
  have c0 := get_of_alloc e0
  have hz : z < 4294967296 := by
    have := hwf.2.2
    simp [Lit.wf, IntKind.min, IntKind.max, IntKind.signed, IntKind.bits] at this
    omega
  have key : QOk (x, y, z) ↔ ((x = 0 ∧ y = 0 ∧ z = 0) ∨ (4 ≤ x ∧ x < 1024 ∧ 1 ≤ y ∧ y ≤ 281474976710655)) := by
    unfold QOk
    simp only [Prod.mk.injEq, hz, true_and]
  refine ⟨_, _, _, ldN_all c0 rfl, _, _, kPtr hwf.1 hwf.2.1 hwf.2.2, kHole, fun e => ?_, fun e => ?_⟩
  · rw [lits_hole] at e
    have := of_decide_eq_true e
    exact ⟨.inl ⟨rfl, key.2 (.inl (by omega))⟩, o0⟩
  · rw [lits_hole] at e
    have := of_decide_eq_false e
    have no : ∀ {v : Value}, v = .bool false → (¬ (4 ≤ x ∧ x < 1024 ∧ 1 ≤ y ∧ y ≤ 281474976710655)) → ((v = .bool true ∧ QOk (x, y, z)) ∨ (v = .bool false ∧ ¬ QOk (x, y, z))) ∧ Old h g0 := fun e2 e3 => ⟨.inr ⟨e2, fun z => by rw [key] at z; omega⟩, o0⟩
    exact ⟨_, ld1_at c0 rfl, fun h1 => ⟨_, ld1_at c0 rfl, fun h2 => ⟨_, ld1_at c0 rfl, fun h3 => ⟨_, ld1_at c0 rfl, fun h4 => ⟨.inl ⟨rfl, key.2 (.inr (by omega))⟩, o0⟩, fun h4 => no rfl (by omega)⟩, fun h3 => no rfl (by omega)⟩, fun h2 => no rfl (by omega)⟩, fun h1 => no rfl (by omega)⟩
theorem ptrRight (hk : K 49 = none) {q : Tr3} (hwf : PtrWf (q.1 : Nat) (q.2.1 : Nat) (q.2.2 : Nat)) :
    Wf Try.prog K 49 [qV q] h fun v h' => ((v = .bool true ∧ QOk q) ∨ (v = .bool false ∧ ¬ QOk q)) ∧ Old h h' := ptrRight' hk hwf
theorem ptrBytes (hk : K 44 = none) (kR : K 49 = none) (kw : K 51 = none) (kP : K 50 = none) (kr : K 57 = none) {q : Tr3} (k : QOk q) :
    Wf Try.prog K 44 [qV q] h fun v h' => (∃ b, v = .tuple #[.slice (some ⟨b, 0, none⟩) 16 16, .int .i64 0] ∧ h.next ≤ b ∧ Shows h' (some ⟨b, 0, none⟩) 16 1 (natC .u8 (ptrB q))) ∧ Old h h' := by
  refine vc_ptr_Bytes hk _ _ _ h _ fun g0 e0 => ?_
  have o0 := old_of_alloc e0
  have n0 := next_of_alloc e0
  have c0 := get_of_alloc e0
  refine ⟨_, _, _, ldN_all c0 rfl, (ptrRight kR k.wf).mono ?_⟩
  rintro v g5 ⟨⟨rfl, -⟩ | ⟨rfl, z⟩, o5⟩
  rotate_left
  · exact absurd k z
  refine .inl ⟨rfl, vc_ptr_widths kw g5 _ fun g7 e7 => ⟨_, _, _, rfl, ?_⟩⟩
  have o7 := old_of_alloc e7
  have n7 := next_of_alloc e7
  have l5 := o5.1
  have hwf := k.wf
  have c5 : g5.get h.next = _ := (o5.2 _ (by omega)).trans c0
  have c7 : g7.get h.next = _ := (o7.2 _ (by omega)).trans c5
  have b1 : q.1 < 1024 := by rcases k.2 with z | z <;> simp_all
  have b2 : q.2.1 ≤ 281474976710655 := by rcases k.2 with z | z <;> simp_all
  have b3 := k.1
  refine ⟨_, ld1_at c7 rfl, fun i12 e12 => ⟨_, ld1_at c7 rfl, _, ld1_at c7 rfl, fun i15 e15 g16 e16 => ?_⟩⟩
  have e12 := u64w e12 (by omega) (by omega)
  have e15 := u64w e15 (by omega) (by omega)
  subst e12
  subst e15
  have o16 := old_of_alloc e16
  have n16 := next_of_alloc e16
  have sw : Shows g16 (some ⟨g5.next, 0, none⟩) 3 1 (natC .i64 [4, 8, 4]) := by
    refine ⟨rfl, .inr ⟨_, 0, _, _, _, rfl, by omega, (o16.2 _ (by omega)).trans (get_of_alloc e7), by decide, rfl⟩⟩
  have sn : Shows g16 (some ⟨g7.next, 0, none⟩) 3 1 (natC .u64 [q.1, q.2.1, q.2.2]) := by
    refine ⟨rfl, .inr ⟨_, 0, _, _, _, rfl, by omega, get_of_alloc e16, Nat.le_refl 3, rfl⟩⟩
  refine (fieldPut kP kr sw sn (by decide) (by decide) rfl (fits k)).mono ?_
  rintro v g18 ⟨⟨b, rfl, hb, S⟩, o18⟩
  refine ⟨_, _, _, _, rfl, ld1_at c5 rfl, ld1_at c7 rfl, ld1_at c5 rfl, ld1_at c7 rfl, ld1_at c5 rfl, ld1_at c7 rfl, fun _ => ⟨⟨b, rfl, by omega, S⟩, (((o0.trans o5).trans o7).trans o16).trans o18⟩, fun z => absurd rfl z⟩
theorem ptrRead (hk : K 45 = none) (kR : K 49 = none) (kw : K 51 = none) (kG : K 52 = none) (kr : K 57 = none) {b off c : Nat} {bs : List Nat} (hs : Shows h (some ⟨b, off, none⟩) 16 1 (natC .u8 bs)) (hb : b < h.next) (hc : CutOk Try.prog h 5 b 16 c) (hbs : ∀ x ∈ bs, x < 256) :
    Wf Try.prog K 45 [.slice (some ⟨b, off, none⟩) 16 c] h fun v h' => ((QOk (ptrD bs) ∧ v = .tuple #[qV (ptrD bs), .int .i64 0]) ∨ (¬ QOk (ptrD bs) ∧ v = .tuple #[qV (0, 0, 0), .int .i64 51])) ∧ Old h h' := by
  have hl : bs.length = 16 := by have := hs.1; rw [natC_len] at this; omega
  refine vc_ptr_Read hk _ _ _ h _ fun g0 e0 => vc_ptr_widths kw g0 _ fun g2 e2 => ⟨_, _, _, rfl, ?_⟩
  have o0 := old_of_alloc e0
  have n0 := next_of_alloc e0
  have o2 := old_of_alloc e2
  have n2 := next_of_alloc e2
  have o02 := o0.trans o2
  have c2 : g2.get h.next = _ := (o2.2 _ (by omega)).trans (get_of_alloc e0)
  have sw : Shows g2 (some ⟨g0.next, 0, none⟩) 3 1 (natC .i64 [4, 8, 4]) := ⟨rfl, .inr ⟨_, 0, _, _, _, rfl, by omega, get_of_alloc e2, by decide, rfl⟩⟩
  refine (fieldGet kG kr sw (hs.old o02) (by omega) (hc.old o02 hb) (by decide) (by decide) hbs hl).mono ?_
  rintro v g7 ⟨⟨b', rfl, hb', S⟩, o7⟩
  refine ⟨_, _, _, _, rfl, fun _ => ?_, fun z => absurd rfl z⟩
  have l7 := o7.1
  have c7 : g7.get h.next = _ := (o7.2 _ (by omega)).trans c2
  rw [dec_ptr] at S
  have hx : (ptrD bs).1 < 256 ^ 4 := by
    have := deB_lt (bs.take 4) fun x hx => hbs x (List.mem_of_mem_take hx)
    rwa [List.length_take, show min 4 bs.length = 4 by omega] at this
  have hy : (ptrD bs).2.1 < 256 ^ 8 := by
    have := deB_lt ((bs.drop 4).take 8) fun x hx => hbs x (List.mem_of_mem_drop (List.mem_of_mem_take hx))
    rwa [List.length_take, List.length_drop, show min 8 (bs.length - 4) = 8 by omega] at this
  have hz : (ptrD bs).2.2 < 256 ^ 4 := by
    have := deB_lt (((bs.drop 4).drop 8).take 4) fun x hx => hbs x (List.mem_of_mem_drop (List.mem_of_mem_drop (List.mem_of_mem_take hx)))
    rwa [List.length_take, List.length_drop, List.length_drop, show min 4 (bs.length - 4 - 8) = 4 by omega] at this
  generalize ptrD bs = q at S hx hy hz
  obtain ⟨b1, off1, hq1, hd0⟩ := S.get (i := 0) (by decide)
  obtain ⟨b2, off2, hq2, hd1⟩ := S.get (i := 1) (by decide)
  obtain ⟨b3, off3, hq3, hd2⟩ := S.get (i := 2) (by decide)
  simp only [Option.some.injEq, Addr.mk.injEq, and_true] at hq1 hq2 hq3
  obtain ⟨rfl, rfl⟩ := hq1
  obtain ⟨rfl, rfl⟩ := hq2
  obtain ⟨rfl, rfl⟩ := hq3
  refine derefP_at ⟨by decide, by decide, _, hd0, fun i15 e15 => derefP_at ⟨by decide, by decide, _, hd1, derefP_at ⟨by decide, by decide, _, hd2, fun i22 e22 g23 e23 => ?_⟩⟩⟩
  have e15 := i64w e15 (by omega) (by omega)
  rw [wrapN_u32, Nat.mod_eq_of_lt hz] at e22
  subst e15
  subst e22
  have o23 := old_of_alloc e23
  have n23 := next_of_alloc e23
  have k24 := near_set g7.next g23 (.cells [.int .i64 (q.1 : Nat), .int .u64 (q.2.1 : Nat), .int .u32 (q.2.2 : Nat)] 36 false)
  have c24 : (g23.set g7.next (.cells [.int .i64 (q.1 : Nat), .int .u64 (q.2.1 : Nat), .int .u32 (q.2.2 : Nat)] 36 false)).get g7.next = _ := get_set_self _ _ _
  have d24 : (g23.set g7.next (.cells [.int .i64 (q.1 : Nat), .int .u64 (q.2.1 : Nat), .int .u32 (q.2.2 : Nat)] 36 false)).get h.next = _ := (k24.2 _ (by omega)).trans ((o23.2 _ (by omega)).trans c7)
  have l24 : (g23.set g7.next (.cells [.int .i64 (q.1 : Nat), .int .u64 (q.2.1 : Nat), .int .u32 (q.2.2 : Nat)] 36 false)).next = g7.next + 1 := by rw [k24.1, n23]
  have o24 : Old h (g23.set g7.next (.cells [.int .i64 (q.1 : Nat), .int .u64 (q.2.1 : Nat), .int .u32 (q.2.2 : Nat)] 36 false)) := ⟨by omega, fun x hx => by rw [k24.2 x (by omega), o23.2 x (by omega), o7.2 x (by omega), o02.2 x hx]⟩
  have k24' : stN g23 g7.next 0 [.int .i64 (q.1 : Nat), .int .u64 (q.2.1 : Nat), .int .u32 (q.2.2 : Nat)] = some (g23.set g7.next (.cells [.int .i64 (q.1 : Nat), .int .u64 (q.2.1 : Nat), .int .u32 (q.2.2 : Nat)] 36 false)) := stN_all (get_of_alloc e23) rfl
  generalize g23.set g7.next (.cells [.int .i64 (q.1 : Nat), .int .u64 (q.2.1 : Nat), .int .u32 (q.2.2 : Nat)] 36 false) = g24 at c24 d24 l24 o24 k24'
  have hwf : PtrWf (q.1 : Nat) (q.2.1 : Nat) (q.2.2 : Nat) := by
    unfold PtrWf
    simp [Lit.wf, IntKind.min, IntKind.max, IntKind.signed, IntKind.bits]
    omega
  refine ⟨rfl, g24, k24', _, _, _, ldN_all c24 rfl, (ptrRight kR hwf).mono ?_⟩
  rintro v g29 ⟨hv, o29⟩
  have c29 : g29.get g7.next = _ := (o29.2 _ (by omega)).trans c24
  have d29 : g29.get h.next = _ := (o29.2 _ (by omega)).trans d24
  have oo : ∀ cs, Old h (g29.set h.next (.cells cs 36 false)) := fun cs => (o24.trans o29).near (near_set _ _ _) (Nat.le_refl _)
  rcases hv with ⟨rfl, hq⟩ | ⟨rfl, hq⟩
  · exact .inl ⟨rfl, _, _, _, ldN_all c29 rfl, rfl, _, stN_all d29 rfl, _, _, _, ldN_all (get_set_self _ _ _) rfl, .inl ⟨hq, rfl⟩, oo _⟩
  · exact .inr ⟨rfl, rfl, _, stN_all d29 rfl, _, _, _, ldN_all (get_set_self _ _ _) rfl, .inr ⟨hq, rfl⟩, oo _⟩
/-! ## Nodes -/
def nodeB (qs : List Tr3) : List Nat := (qs.map ptrB).flatten
theorem nodeB_len (qs : List Tr3) : (nodeB qs).length = 16 * qs.length := by
  induction qs with
  | nil => rfl
  | cons q qs ih => simp only [nodeB, List.map_cons, List.flatten_cons, List.length_append, ptrB_len, List.length_cons] at *; omega
theorem nodeB_app (qs ps : List Tr3) : nodeB (qs ++ ps) = nodeB qs ++ nodeB ps := by simp [nodeB]
theorem nodeB_lt {qs : List Tr3} {x : Nat} (hx : x ∈ nodeB qs) : x < 256 := by
  simp only [nodeB, List.mem_flatten, List.mem_map] at hx
  obtain ⟨_, ⟨q, -, rfl⟩, hx⟩ := hx
  exact ptrB_lt hx
theorem nodeB_sec {qs : List Tr3} (hl : qs.length = 8) : Sec (nodeB qs) := ⟨by rw [nodeB_len, hl], fun _ => nodeB_lt⟩
theorem nodeB_get : ∀ (qs : List Tr3) (i : Nat) (hi : i < qs.length), ((nodeB qs).drop (i * 16)).take 16 = ptrB qs[i]
  | [], i, hi => absurd hi (Nat.not_lt_zero _)
  | q :: qs, 0, _ => by
    show ((ptrB q ++ nodeB qs).drop 0).take 16 = ptrB q
    rw [List.drop_zero]
    have := List.take_left (l₁ := ptrB q) (l₂ := nodeB qs)
    rwa [ptrB_len] at this
  | q :: qs, i + 1, hi => by
    show ((ptrB q ++ nodeB qs).drop ((i + 1) * 16)).take 16 = _
    rw [show (i + 1) * 16 = 16 + i * 16 by omega, ← List.drop_drop]
    have := List.drop_left (l₁ := ptrB q) (l₂ := nodeB qs)
    rw [ptrB_len] at this
    rw [this]
    exact nodeB_get qs i (by simpa using hi)
/-- What stands in a sector while pointers are laid. -/
def npart (qs : List Tr3) (j : Nat) : List Nat := nodeB (qs.take j) ++ List.replicate (128 - 16 * j) 0
theorem npart_set {qs : List Tr3} {j : Nat} (hj : j < qs.length) (h8 : qs.length = 8) : (secC (npart qs j)).take (j * 16) ++ (natC .u8 (ptrB qs[j])).take 16 ++ (secC (npart qs j)).drop (j * 16 + ((natC .u8 (ptrB qs[j])).take 16).length) = secC (npart qs (j + 1)) := by
  have h1 : (nodeB (qs.take j)).length = j * 16 := by rw [nodeB_len, List.length_take]; omega
  have h2 : (natC .u8 (ptrB qs[j])).take 16 = natC .u8 (ptrB qs[j]) := List.take_of_length_le (by rw [natC_len, ptrB_len]; decide)
  rw [h2, natC_len, ptrB_len]
  unfold secC npart
  rw [natC_app, natC_app]
  have h3 : (natC .u8 (nodeB (qs.take j))).length = j * 16 := by rw [natC_len, h1]
  rw [← h3, List.take_left, h3, ← List.drop_drop, ← h3, List.drop_left, List.take_succ_eq_append_getElem hj, nodeB_app, natC_app, List.append_assoc, List.append_assoc]
  have e1 : nodeB [qs[j]] = ptrB qs[j] := by simp [nodeB]
  rw [e1]
  congr 2
  unfold natC
  rw [List.map_replicate, List.map_replicate, List.drop_replicate]
  congr 1
theorem uSec : Try.prog.underlying 46 = some (.array 128 5) := Try.underlying46
theorem cutSec (g : AH) (b lo hi : Nat) (h1 : lo < 128) (h2 : lo ≤ hi) (h3 : hi ≤ 128) : aSlice Try.prog g 46 (.pointer (some ⟨b, 0, none⟩)) (some (.int .i64 (lo : Int))) (some (.int .i64 (hi : Int))) none = some (.slice (some ⟨b, lo, none⟩) (hi - lo) (128 - lo)) := by
  rw [cut_arr uSec (by simp) (sz := 1) (by simp) (by decide) b 0 h1 h2 h3, Nat.zero_add, Nat.mul_one]
theorem nodeBytes (hk : K 36 = none) (kB : K 44 = none) (kR : K 49 = none) (kw : K 51 = none) (kP : K 50 = none) (kr : K 57 = none) {qs : List Tr3} (hl : qs.length = 8) (hq : ∀ q ∈ qs, QOk q) :
    Wf Try.prog K 36 [.agg (ptr3 qs).toArray] h fun v h' => v = .tuple #[.agg (secC (nodeB qs)).toArray, .int .i64 0] ∧ Old h h' := by
  have hl3 : (ptr3 qs).length = 24 := by rw [ptr3_len, hl]
  refine vc_node_Bytes hk _ h _ fun g0 e0 g1 e1 g2 e2 => ?_
  have o0 := old_of_alloc e0
  have n0 := next_of_alloc e0
  have o1 := old_of_alloc e1
  have n1 := next_of_alloc e1
  have o2 := old_of_alloc e2
  have n2 := next_of_alloc e2
  have c2 : g2.get h.next = some (.cells (ptr3 qs) 91 false) := by rw [o2.2 _ (by omega), o1.2 _ (by omega)]; exact get_of_alloc e0
  have r2 : g2.get g0.next = some (.cells (List.replicate 128 (.int .u8 0)) 46 false) := by rw [o2.2 _ (by omega)]; exact get_of_alloc e1
  have s2 := get_of_alloc e2
  refine ⟨_, ldN_all c2 hl3, fun i k g => ∃ j : Nat, i = j ∧ j ≤ 8 ∧ 8 - j = k ∧ g2.next ≤ g.next ∧ (∀ c, c < g2.next → c ≠ g1.next → g.get c = g2.get c) ∧ g.get g1.next = some (.cells (secC (npart qs j)) 46 false),
    ⟨_, 0, rfl, by decide, rfl, Nat.le_refl _, fun _ _ _ => rfl, by rw [s2]; simp only [npart, List.take_zero, nodeB, List.map_nil, List.flatten_nil, List.nil_append, secC, natC, List.map_replicate]; rfl⟩, ?_⟩
  rintro k g6 i8 ⟨j, rfl, hj, rfl, l6, f6, s6⟩
  refine ⟨fun z => ?_, fun z => ?_⟩
  · have hj' : j < qs.length := by omega
    have hqj := hq _ (List.getElem_mem hj')
    refine ⟨by omega, z, ((qs[j].1 : Nat) : Int), ((qs[j].2.1 : Nat) : Int), ((qs[j].2.2 : Nat) : Int), by rw [Int.toNat_natCast]; exact ptr3_get qs j hj', fun g12 e12 => ⟨rfl, _, stN_all (get_of_alloc e12) rfl, _, _, _, ldN_all (get_set_self _ _ _) rfl, ?_⟩⟩
    have o12 := old_of_alloc e12
    have n12 := next_of_alloc e12
    have k13 := near_set g6.next g12 (.cells [.int .i64 (qs[j].1 : Nat), .int .u64 (qs[j].2.1 : Nat), .int .u32 (qs[j].2.2 : Nat)] 36 false)
    refine (ptrBytes kB kR kw kP kr hqj).mono ?_
    rintro v g18 ⟨⟨b, rfl, hb, S⟩, o18⟩
    have hset := npart_set hj' hl
    have l18 := o18.1
    have f18 : ∀ c, c < g6.next → g18.get c = g6.get c := fun c hc => by rw [o18.2 c (by rw [k13.1]; omega), k13.2 c (by omega), o12.2 c (by omega)]
    have l18' : g6.next ≤ g18.next := by rw [k13.1, n12] at l18; omega
    have s18 := (f18 g1.next (by omega)).trans s6
    refine ⟨_, _, _, _, rfl, fun _ i23 e23 i24 e24 i25 e25 => ?_, fun z => absurd rfl z⟩
    have e23 := i64w e23 (by omega) (by omega)
    have e24 := i64w e24 (by omega) (by omega)
    subst e24
    have e25 := i64w e25 (by omega) (by omega)
    rw [e23, e25, show (j : Int) * 16 = ((j * 16 : Nat) : Int) by omega, show ((j : Int) + 1) * 16 = ((j * 16 + 16 : Nat) : Int) by omega]
    have k29 := cutSec g18 g1.next (j * 16) (j * 16 + 16) (by omega) (by omega) (by omega)
    rw [show j * 16 + 16 - j * 16 = 16 by omega] at k29
    obtain ⟨g30, k30, nr30, s30⟩ := copy_own eU8 (off := j * 16) (n := 16) (c := 128 - j * 16) (c' := 16) s18 (by rw [secC, natC_len]; unfold npart; rw [List.length_append, List.length_replicate, nodeB_len, List.length_take]; omega) (by decide) S (.inr ⟨_, _, rfl⟩) 22
    rw [hset] at s30
    refine ⟨_, _, _, k29, _, g30, k30, fun i31 e31 => ?_⟩
    have e31 := i64w e31 (by omega) (by omega)
    exact ⟨_, by omega, j + 1, by rw [e31]; rfl, by omega, rfl, by rw [nr30.1]; omega, fun c hc hne => by rw [nr30.2 c hne, f18 c (by omega), f6 c hc hne], s30⟩
  · have hj8 : j = 8 := by omega
    subst hj8
    have e8 : npart qs 8 = nodeB qs := by unfold npart; rw [List.take_of_length_le (by omega)]; simp
    rw [e8] at s6
    have hls := secC_len (nodeB_sec hl)
    have r6 := (f6 g0.next (by omega) (by omega)).trans r2
    refine ⟨_, ldN_all s6 hls, hls, _, stN_all r6 (by rw [hls]; simp), _, ldN_all (get_set_self _ _ _) hls, rfl, ?_⟩
    have ns := near_set g0.next g6 (.cells (secC (nodeB qs)) 46 false)
    exact ⟨by rw [ns.1]; omega, fun c hc => by rw [ns.2 c (by omega), f6 c (by omega) (by omega), o2.2 c (by omega), o1.2 c (by omega), o0.2 c hc]⟩
def nodeD (s : List Nat) : List Tr3 := (List.range 8).map fun i => ptrD ((s.drop (i * 16)).take 16)
theorem nodeD_len (s : List Nat) : (nodeD s).length = 8 := by simp [nodeD]
theorem nodeD_get (s : List Nat) {j : Nat} (hj : j < 8) : (nodeD s)[j]'(by rw [nodeD_len]; exact hj) = ptrD ((s.drop (j * 16)).take 16) := by simp [nodeD]
theorem nodeD_B {qs : List Tr3} (hl : qs.length = 8) (hq : ∀ q ∈ qs, QOk q) : nodeD (nodeB qs) = qs := by
  apply List.ext_getElem (by rw [nodeD_len, hl])
  intro j h1 h2
  rw [nodeD_get _ (by omega), nodeB_get qs j h2, ptrD_B (hq _ (List.getElem_mem h2))]
theorem zNode : aBuild Try.prog 91 #[] = some (.agg (ptr3 (List.replicate 8 (0, 0, 0))).toArray) := by kernel_rfl
theorem nodeB_hole : nodeB (List.replicate 8 (0, 0, 0)) = List.replicate 128 0 := by decide
theorem nodeRead (hk : K 37 = none) (kB : K 45 = none) (kR : K 49 = none) (kw : K 51 = none) (kG : K 52 = none) (kr : K 57 = none) {s : List Nat} (hs : Sec s) :
    Wf Try.prog K 37 [.agg (secC s).toArray] h fun v h' => (((∀ q ∈ nodeD s, QOk q) ∧ v = .tuple #[.agg (ptr3 (nodeD s)).toArray, .int .i64 0]) ∨ (¬ (∀ q ∈ nodeD s, QOk q) ∧ v = .tuple #[.agg (ptr3 (List.replicate 8 (0, 0, 0))).toArray, .int .i64 51])) ∧ Old h h' := by
  have hls := secC_len hs
  have hz : (ptr3 (List.replicate 8 ((0, 0, 0) : Tr3))).length = 24 := by rw [ptr3_len]; rfl
  refine vc_node_Read hk _ h _ fun g0 e0 g1 e1 g2 e2 => ?_
  have o0 := old_of_alloc e0
  have n0 := next_of_alloc e0
  have o1 := old_of_alloc e1
  have n1 := next_of_alloc e1
  have o2 := old_of_alloc e2
  have n2 := next_of_alloc e2
  have c2 : g2.get h.next = some (.cells (secC s) 46 false) := by rw [o2.2 _ (by omega), o1.2 _ (by omega)]; exact get_of_alloc e0
  have r2 : g2.get g0.next = some (.cells (ptr3 (List.replicate 8 (0, 0, 0))) 91 false) := by rw [o2.2 _ (by omega)]; exact get_of_alloc e1
  have s2 : g2.get g1.next = some (.cells (ptr3 (List.replicate 8 (0, 0, 0))) 91 false) := get_of_alloc e2
  refine ⟨fun i k g => ∃ j : Nat, i = j ∧ j ≤ 8 ∧ 8 - j = k ∧ g2.next ≤ g.next ∧ (∀ c, c < g2.next → c ≠ g1.next → g.get c = g2.get c) ∧ g.get g1.next = some (.cells (ptr3 ((nodeD s).take j ++ List.replicate (8 - j) (0, 0, 0))) 91 false) ∧ ∀ (x : Nat) q, x < j → (nodeD s)[x]? = some q → QOk q,
    ⟨_, 0, rfl, by decide, rfl, Nat.le_refl _, fun _ _ _ => rfl, s2, fun x q hx => absurd hx (Nat.not_lt_zero _)⟩, ?_⟩
  rintro k g5 i7 ⟨j, rfl, hj, rfl, l5, f5, s5, hok⟩
  have hL : ((nodeD s).take j ++ List.replicate (8 - j) ((0, 0, 0) : Tr3)).length = 8 := by rw [List.length_append, List.length_take, List.length_replicate, nodeD_len]; omega
  refine ⟨fun z i8 e8 i9 e9 i10 e10 => ?_, fun z => ?_⟩
  · have hj' : j < 8 := by omega
    have e8 := i64w e8 (by omega) (by omega)
    have e9 := i64w e9 (by omega) (by omega)
    subst e9
    have e10 := i64w e10 (by omega) (by omega)
    rw [e8, e10, show (j : Int) * 16 = ((j * 16 : Nat) : Int) by omega, show ((j : Int) + 1) * 16 = ((j * 16 + 16 : Nat) : Int) by omega]
    have k11 := cutSec g5 h.next (j * 16) (j * 16 + 16) (by omega) (by omega) (by omega)
    rw [show j * 16 + 16 - j * 16 = 16 by omega] at k11
    have c5 : g5.get h.next = _ := (f5 _ (by omega) (by omega)).trans c2
    have S : Shows g5 (some ⟨h.next, j * 16, none⟩) 16 1 (natC .u8 ((s.drop (j * 16)).take 16)) := by
      refine ⟨by rw [natC_len, List.length_take, List.length_drop, hs.1]; omega, .inr ⟨_, _, _, _, _, rfl, by omega, c5, by rw [hls]; omega, ?_⟩⟩
      unfold secC natC
      rw [List.map_take, List.map_drop]
    have hqd := nodeD_get s hj'
    have hqe : (nodeD s)[j]? = some (ptrD ((s.drop (j * 16)).take 16)) := by rw [← hqd, List.getElem?_eq_getElem]
    have hfs := fill_set (z := ((0, 0, 0) : Tr3)) (nodeD_len s) hj'
    rw [hqd] at hfs
    refine ⟨_, _, _, k11, (ptrRead kB kR kw kG kr S (by omega) (.inl ⟨by omega, by simp only [openCap]; omega⟩) fun x hx => hs.2 x (List.mem_of_mem_drop (List.mem_of_mem_take hx))).mono ?_⟩
    generalize ptrD ((s.drop (j * 16)).take 16) = q at hqe hfs
    rintro v g15 ⟨hv, o15⟩
    have l15 := o15.1
    have f15 : ∀ c, c < g2.next → c ≠ g1.next → g15.get c = g2.get c := fun c hc hne => by rw [o15.2 c (by omega), f5 c hc hne]
    have s15 := (o15.2 g1.next (by omega)).trans s5
    rcases hv with ⟨hq, rfl⟩ | ⟨hq, rfl⟩
    · refine ⟨_, _, _, _, rfl, fun g20 e20 => ⟨rfl, _, stN_all (get_of_alloc e20) rfl, fun _ => ⟨_, _, _, ldN_all (get_set_self _ _ _) rfl, by omega, z, rfl, ?_⟩, fun z => absurd rfl z⟩⟩
      have o20 := old_of_alloc e20
      have n20 := next_of_alloc e20
      have k21 := near_set g15.next g20 (.cells [.int .i64 (q.1 : Nat), .int .u64 (q.2.1 : Nat), .int .u32 (q.2.2 : Nat)] 36 false)
      have s21 : (g20.set g15.next (.cells [.int .i64 (q.1 : Nat), .int .u64 (q.2.1 : Nat), .int .u32 (q.2.2 : Nat)] 36 false)).get g1.next = _ := (k21.2 _ (by omega)).trans ((o20.2 _ (by omega)).trans s15)
      have k25 := near_set g1.next (g20.set g15.next (.cells [.int .i64 (q.1 : Nat), .int .u64 (q.2.1 : Nat), .int .u32 (q.2.2 : Nat)] 36 false))
      refine ⟨_, stN_of s21 (by rw [ptr3_len, hL]; simp only [List.length_cons, List.length_nil, Int.toNat_natCast]; omega), fun i26 e26 => ?_⟩
      have e26 := i64w e26 (by omega) (by omega)
      refine ⟨_, by omega, j + 1, by rw [e26]; rfl, by omega, rfl, by rw [(k25 _).1, k21.1]; omega, fun c hc hne => by rw [(k25 _).2 c hne, k21.2 c (by omega), o20.2 c (by omega), f15 c hc hne], ?_, fun x q' hx hq' => ?_⟩
      · rw [get_set_self, Int.toNat_natCast, Nat.zero_add]
        have := ptr3_set ((nodeD s).take j ++ List.replicate (8 - j) ((0, 0, 0) : Tr3)) j q (by omega)
        rw [hfs] at this
        rw [← this]
        rfl
      · rcases Nat.lt_or_ge x j with y | y
        · exact hok x q' y hq'
        · rw [show x = j by omega, hqe] at hq'
          cases hq'
          exact hq
    · refine ⟨_, _, _, _, rfl, fun g20 e20 => ⟨rfl, _, stN_all (get_of_alloc e20) rfl, fun z => absurd z (by decide), fun _ => ⟨_, zNode, hz, ?_⟩⟩⟩
      have o20 := old_of_alloc e20
      have n20 := next_of_alloc e20
      have k21 := near_set g15.next g20 (.cells [.int .i64 ((0 : Nat) : Int), .int .u64 ((0 : Nat) : Int), .int .u32 ((0 : Nat) : Int)] 36 false)
      have r21 : (g20.set g15.next (.cells [.int .i64 ((0 : Nat) : Int), .int .u64 ((0 : Nat) : Int), .int .u32 ((0 : Nat) : Int)] 36 false)).get g0.next = _ := (k21.2 _ (by omega)).trans ((o20.2 _ (by omega)).trans ((f15 _ (by omega) (by omega)).trans r2))
      have k28 := near_set g0.next (g20.set g15.next (.cells [.int .i64 ((0 : Nat) : Int), .int .u64 ((0 : Nat) : Int), .int .u32 ((0 : Nat) : Int)] 36 false)) (.cells (ptr3 (List.replicate 8 (0, 0, 0))) 91 false)
      refine ⟨_, stN_all r21 (by rw [hz]), _, ldN_all (get_set_self _ _ _) hz, .inr ⟨fun all => hq (all q (List.mem_of_getElem? hqe)), rfl⟩, ?_⟩
      exact ⟨by rw [k28.1, k21.1]; omega, fun c hc => by rw [k28.2 c (by omega), k21.2 c (by omega), o20.2 c (by omega), f15 c (by omega) (by omega), o2.2 c (by omega), o1.2 c (by omega), o0.2 c hc]⟩
  · have hj8 : j = 8 := by omega
    subst hj8
    have e8 : (nodeD s).take 8 ++ List.replicate (8 - 8) ((0, 0, 0) : Tr3) = nodeD s := by rw [List.take_of_length_le (by rw [nodeD_len]; decide)]; simp
    rw [e8] at s5
    have hl3 : (ptr3 (nodeD s)).length = 24 := by rw [ptr3_len, nodeD_len]
    have r5 := (f5 g0.next (by omega) (by omega)).trans r2
    have k31 := near_set g0.next g5 (.cells (ptr3 (nodeD s)) 91 false)
    refine ⟨_, ldN_all s5 hl3, hl3, _, stN_all r5 (by rw [hl3, hz]), _, ldN_all (get_set_self _ _ _) hl3, .inl ⟨fun q hq => ?_, rfl⟩, ?_⟩
    · obtain ⟨i, hi⟩ := List.mem_iff_getElem?.1 hq
      exact hok i q (by have := (List.getElem?_eq_some_iff.1 hi).1; rw [nodeD_len] at this; exact this) hi
    · exact ⟨by rw [k31.1]; omega, fun c hc => by rw [k31.2 c (by omega), f5 c (by omega) (by omega), o2.2 c (by omega), o1.2 c (by omega), o0.2 c hc]⟩
/-! ## Keys of nodes -/
def litsP (qs : List Tr3) : List Lit := (qs.map fun q => [Lit.int .i64 (q.1 : Nat), Lit.int .u64 (q.2.1 : Nat), Lit.int .u32 (q.2.2 : Nat)]).flatten
theorem litsP_eq : ∀ {qs ps : List Tr3}, litsEq (litsP qs) (litsP ps) = decide (qs = ps)
  | [], [] => rfl
  | [], _ :: _ => rfl
  | _ :: _, [] => rfl
  | q :: qs, p :: ps => by
    have ih := litsP_eq (qs := qs) (ps := ps)
    obtain ⟨a, b, c⟩ := q
    obtain ⟨x, y, z⟩ := p
    show (litEq (.int .i64 (a : Nat)) (.int .i64 (x : Nat)) && (litEq (.int .u64 (b : Nat)) (.int .u64 (y : Nat)) && (litEq (.int .u32 (c : Nat)) (.int .u32 (z : Nat)) && litsEq (litsP qs) (litsP ps)))) = _
    rw [ih]
    by_cases h1 : a = x <;> by_cases h2 : b = y <;> by_cases h3 : c = z <;> by_cases h4 : qs = ps <;> simp [litEq, h1, h2, h3, h4] <;> omega
theorem kNode {qs : List Tr3} (hl : qs.length = 8) (hq : ∀ q ∈ qs, QOk q) : keyA Try.prog 91 (.agg (ptr3 qs).toArray) = some (litsP qs) := by
  have hl3 : (ptr3 qs).length = 24 := by rw [ptr3_len, hl]
  have k3 := fun (x : Int) => aKey_intN (P := Try.prog) Try.underlying3 (m := 38) (d := 37) rfl x
  have k4 := fun (x : Int) => aKey_intN (P := Try.prog) Try.underlying33 (m := 38) (d := 37) rfl x
  have k5 := fun (x : Int) => aKey_intN (P := Try.prog) Try.underlying34 (m := 38) (d := 37) rfl x
  have kp := fun (cs : List Value) => aKey_structN (P := Try.prog) Try.underlying36 (n := 39) (d := 38) rfl cs
  rw [aKey_eq (by simp [Value.formed, hl3]), aKey_array Try.underlying91 (d := 39) rfl]
  generalize Try.prog.keyLits 38 = KL at k3 k4 k5 kp
  generalize Try.prog.keyLits 39 = KM at kp ⊢
  have hc1 : Try.prog.cellsOf 91 = 24 := by simp
  have hc2 : Try.prog.cellsOf 36 = 3 := by simp
  rw [if_pos (by rw [hc1]; exact hl3), hc2]
  have : (List.range 8).mapM (fun i => KM 36 (((ptr3 qs).drop (i * 3)).take 3)) = some (qs.map fun q => [Lit.int .i64 (q.1 : Nat), Lit.int .u64 (q.2.1 : Nat), Lit.int .u32 (q.2.2 : Nat)]) := by
    refine mapM_got _ _ (by simp [hl]) fun i x hi => ?_
    have hi8 : i < 8 := by have := (List.getElem?_eq_some_iff.1 hi).1; simpa using this
    rw [List.getElem?_range hi8] at hi
    obtain rfl : i = x := by simpa using hi
    have hil : i < qs.length := by omega
    rw [ptr3_get qs i hil, kp]
    have hwf := (hq _ (List.getElem_mem hil)).wf
    have a3 := k3 (qs[i].1 : Nat)
    have a4 := k4 (qs[i].2.1 : Nat)
    have a5 := k5 (qs[i].2.2 : Nat)
    rw [if_pos hwf.1] at a3
    rw [if_pos hwf.2.1] at a4
    rw [if_pos hwf.2.2] at a5
    simp [a3, a4, a5, hil]
  simp only [List.toList_toArray] at this ⊢
  rw [this]
  rfl
theorem hole_ok : QOk (0, 0, 0) := ⟨by decide, .inl rfl⟩
theorem holes_ok {n : Nat} : ∀ q ∈ List.replicate n ((0, 0, 0) : Tr3), QOk q := fun q hq => by rw [List.mem_replicate] at hq; rw [hq.2]; exact hole_ok
end
end Go.Am
