/-
  WHATEVER IS TOLD OF ANY FAMILY: the law, as the abstract machine runs it.
-/
import Derived.Test.YtibgmhipepaeaaaCRight16
import Derived.Test.YtibgmhipepaeaaaCFamX
set_option linter.unusedVariables false
set_option linter.unusedSimpArgs false
set_option maxRecDepth 100000
namespace Go.Am
open Go.Proofs
theorem EntR.cor {a b : SetR} (e : EntR a) (h : cor a = cor b) : EntR b := by
  obtain ⟨h1, h2, h3, h4, h5, h6, h7, h8, h9, h10⟩ := cor_eq h
  unfold EntR at e ⊢
  rw [← h1, ← h2, ← h3, ← h4, ← h5, ← h6, ← h7, ← h8, ← h9, ← h10]
  exact e
theorem ownL_cor {xs ys : List SetR} (h : xs.map cor = ys.map cor) (id : Int) : ownL xs id = ownL ys id := by
  unfold ownL
  rw [plcN_cor h]
  cases plcN ys id with
  | none => rfl
  | some i =>
    simp only
    cases hx : xs[i]? with
    | none =>
      have : ys[i]? = none := by rw [List.getElem?_eq_none_iff] at hx ⊢; rw [← cor_len h]; exact hx
      rw [this]
    | some r =>
      obtain ⟨r', hr', hc⟩ := cor_at h hx
      obtain ⟨-, -, h3, h4, -⟩ := cor_eq hc
      rw [hr']
      simp only [h3, h4]
      split
      · exact filter_cor h _ (fun a => rfl) _ (fun a => rfl)
      · rfl
theorem RightP.cor {nx : Int} {xs ys : List SetR} (R : RightP nx xs) (h : xs.map cor = ys.map cor) : RightP nx ys := by
  have hz : plcN ys 0 = none := by rw [← plcN_cor h]; exact R.zero
  refine good_right R.1 (by rw [← cor_len h]; exact R.2.1) fun u b hb => ?_
  obtain ⟨a, ha, hc⟩ := cor_at h.symm hb
  have hc := hc.symm
  have G := R.good ha
  obtain ⟨h1, h2, h3, h4, h5, h6, h7, h8, h9, h10⟩ := cor_eq hc
  refine ⟨G.ent.cor hc, by rw [← h1]; exact G.lt, fun j y hj hy => ?_, ?_, ?_, fun hs => ?_, fun q hq => ?_, fun k t hk hne => ?_⟩
  · obtain ⟨x, hx, hxc⟩ := cor_at h.symm hy
    rw [← h1, (cor_eq hxc).1]
    exact G.ord j x hj hx
  · obtain ⟨j, v, q1, q2, q3⟩ := G.vol
    obtain ⟨w, hw, hwc⟩ := cor_at h q2
    exact ⟨j, w, by rw [← plcN_cor h, ← h4]; exact q1, hw, by rw [← (cor_eq hwc).2.2.1]; exact q3⟩
  · rcases G.prev with ⟨j, x, q1, q2, q3, q4⟩ | ⟨q1, q2⟩
    · obtain ⟨w, hw, hwc⟩ := cor_at h q2
      have e := cor_eq hwc
      refine .inl ⟨j, w, by rw [← plcN_cor h, ← h5]; exact q1, hw, ?_, ?_⟩
      · rw [← h5, ← e.2.2.1]; exact q3
      · rw [← h3, ← h6, ← e.2.2.2.2.2.1]; exact q4
    · exact .inr ⟨by rw [← plcN_cor h, ← h5]; exact q1, by rw [← h5]; exact q2⟩
  · rw [← ownL_cor h, ← h1]
    exact G.own (by rw [h3]; exact hs)
  · rw [flrD_eq hz, ← flr_cor h, ← flrD_eq R.zero, ← h1]
    exact G.dead q (by rw [h10]; exact hq)
  · obtain ⟨x, hx, hxc⟩ := cor_at h.symm hk
    have e := cor_eq hxc
    have := G.name k x hx hne
    rw [e.2.2.1, e.2.1, e.2.2.2.1, ← h3, ← h2, ← h4]
    exact this
theorem zeroSet (h : AH) : SetOk h zeroR := { id := by decide, own := by decide, prev := by decide, stamp := by decide, root := ⟨by decide, by decide, by decide⟩, dead := fun q hq => (List.not_mem_nil hq).elim, form := .inl rfl, room := Nat.zero_le _, len := rfl, shows := ⟨rfl, .inl rfl⟩ }
theorem clL_len (rs : List SetR) (id : Int) : (clL rs id).length ≤ rs.length := by
  unfold clL
  split
  · exact Nat.zero_le _
  · split
    · exact Nat.zero_le _
    · split
      · rw [List.length_map]
        exact List.length_filter_le _ _
      · exact Nat.zero_le _
theorem wayW_len (rs : List SetR) (id : Int) : ∀ (k : Nat) (pr : Int) (ch : List Int), (wayW rs id k pr ch).1.length ≤ ch.length + k
  | 0, pr, ch => Nat.le_refl _
  | k + 1, pr, ch => by
    unfold wayW
    split
    · exact Nat.le_add_right _ _
    · split
      · exact Nat.le_add_right _ _
      · split
        · exact Nat.le_add_right _ _
        · split
          · refine Nat.le_trans (wayW_len rs id k _ _) ?_
            rw [List.length_append, List.length_singleton]
            omega
          · exact Nat.le_add_right _ _
theorem wayR_len (rs : List SetR) (id : Int) : (wayR rs id).1.length ≤ 32 := by
  unfold wayR
  split
  · exact Nat.zero_le _
  · split
    · exact Nat.zero_le _
    · split
      · exact Nat.zero_le _
      · refine Nat.le_trans (wayW_len rs id _ _ _) ?_
        exact Nat.le_refl _
structure KTells (K : Xs) : Prop where
  r16 : KRef16 K
  right : K 23 = none
  nums : K 32 = none
  find : K 17 = none
  copy : K 42 = none
  origin : K 18 = none
  way : K 56 = none
  chain : K 22 = none
  next : K 21 = none
  full : K 20 = none
  clones : K 16 = none
  floor : K 19 = none
  named : KNamed K
  hang : KHang K
section
variable {K : Xs} {h : AH} {p : Option Addr} {n c : Nat} {rs : List SetR} {nx : Int}
theorem tellsTail (kk : KTells K) {H : AH} {sb tb : Nat} {a b : SetR} {ta tyb : TypeId} {p6 : Option Addr} {c8 : Nat} {rs' : List SetR} {id : Int} {f : ByteArray} (T : Sets H p n rs) (T' : Sets H p6 n rs') (hc : rs'.map cor = rs.map cor) (R : RightP nx rs) (R' : RightP nx rs') (hf : f.size ≤ 9223372036854775806)
    (cb : H.get sb = some (.cells (setC a) ta false)) (lb : sb < H.next) (ka : SetOk H a) (ct : H.get tb = some (.cells (setC b) tyb false)) (lt : tb < H.next) (kb : SetOk H b) (hab : cor a = cor b) :
    Wf Try.prog K 11 [(.slice p6 n c8), (.string f)] H fun r43 h44 =>
    (∃ i45 : Int, ∃ s46 : ByteArray, ∃ b47 : Bool, ∃ i48 : Int, ∃ i49 : Int, ∃ i50 : Int, ∃ i51 : Int, ∃ i52 : Int, ∃ i53 : Int, ∃ i54 : Int, ∃ (p55 : Option Addr) (n56 c57 : Nat), ∃ i58 : Int, r43 = (.tuple #[(.agg #[(.int .u64 i45), (.string s46), (.bool b47), (.int .u64 i48), (.int .u64 i49), (.int .u64 i50), (.int .i64 i51), (.int .i64 i52), (.int .u64 i53), (.int .u32 i54), (.slice p55 n56 c57)]), (.int .i64 i58)]) ∧
    (∀ h59 : AH, h59 = h44.alloc (.cells ([(.int .u64 0), (.string (ByteArray.mk #[])), (.bool false), (.int .u64 0), (.int .u64 0), (.int .u64 0), (.int .i64 0), (.int .i64 0), (.int .u64 0), (.int .u32 0), (.slice none 0 0)] : List Value) 28 false) →
    (List.length ([(.int .u64 i45), (.string s46), (.bool b47), (.int .u64 i48), (.int .u64 i49), (.int .u64 i50), (.int .i64 i51), (.int .i64 i52), (.int .u64 i53), (.int .u32 i54), (.slice p55 n56 c57)] : List Value) = 11) ∧ ∃ h60 : AH, stN h59 h44.next 0 ([(.int .u64 i45), (.string s46), (.bool b47), (.int .u64 i48), (.int .u64 i49), (.int .u64 i50), (.int .i64 i51), (.int .i64 i52), (.int .u64 i53), (.int .u32 i54), (.slice p55 n56 c57)] : List Value) = some h60 ∧
    (Wf Try.prog K 26 [(.slice p n c), (.string f)] h60 fun r61 h62 =>
    (∃ i63 : Int, ∃ s64 : ByteArray, ∃ b65 : Bool, ∃ i66 : Int, ∃ i67 : Int, ∃ i68 : Int, ∃ i69 : Int, ∃ i70 : Int, ∃ i71 : Int, ∃ i72 : Int, ∃ (p73 : Option Addr) (n74 c75 : Nat), ∃ i76 : Int, r61 = (.tuple #[(.agg #[(.int .u64 i63), (.string s64), (.bool b65), (.int .u64 i66), (.int .u64 i67), (.int .u64 i68), (.int .i64 i69), (.int .i64 i70), (.int .u64 i71), (.int .u32 i72), (.slice p73 n74 c75)]), (.int .i64 i76)]) ∧
    (∀ h77 : AH, h77 = h62.alloc (.cells ([(.int .u64 0), (.string (ByteArray.mk #[])), (.bool false), (.int .u64 0), (.int .u64 0), (.int .u64 0), (.int .i64 0), (.int .i64 0), (.int .u64 0), (.int .u32 0), (.slice none 0 0)] : List Value) 28 false) →
    (List.length ([(.int .u64 i63), (.string s64), (.bool b65), (.int .u64 i66), (.int .u64 i67), (.int .u64 i68), (.int .i64 i69), (.int .i64 i70), (.int .u64 i71), (.int .u32 i72), (.slice p73 n74 c75)] : List Value) = 11) ∧ ∃ h78 : AH, stN h77 h62.next 0 ([(.int .u64 i63), (.string s64), (.bool b65), (.int .u64 i66), (.int .u64 i67), (.int .u64 i68), (.int .i64 i69), (.int .i64 i70), (.int .u64 i71), (.int .u32 i72), (.slice p73 n74 c75)] : List Value) = some h78 ∧
    (∃ i79 : Int, ∃ s80 : ByteArray, ∃ b81 : Bool, ∃ i82 : Int, ∃ i83 : Int, ∃ i84 : Int, ∃ i85 : Int, ∃ i86 : Int, ∃ i87 : Int, ∃ i88 : Int, ∃ (p89 : Option Addr) (n90 c91 : Nat), ldN h78 sb 0 11 = some ([(.int .u64 i79), (.string s80), (.bool b81), (.int .u64 i82), (.int .u64 i83), (.int .u64 i84), (.int .i64 i85), (.int .i64 i86), (.int .u64 i87), (.int .u32 i88), (.slice p89 n90 c91)] : List Value) ∧
    (∃ i92 : Int, ∃ s93 : ByteArray, ∃ b94 : Bool, ∃ i95 : Int, ∃ i96 : Int, ∃ i97 : Int, ∃ i98 : Int, ∃ i99 : Int, ∃ i100 : Int, ∃ i101 : Int, ∃ (p102 : Option Addr) (n103 c104 : Nat), ldN h78 tb 0 11 = some ([(.int .u64 i92), (.string s93), (.bool b94), (.int .u64 i95), (.int .u64 i96), (.int .u64 i97), (.int .i64 i98), (.int .i64 i99), (.int .u64 i100), (.int .u32 i101), (.slice p102 n103 c104)] : List Value) ∧
    (Wf Try.prog K 27 [(.agg #[(.int .u64 i79), (.string s80), (.bool b81), (.int .u64 i82), (.int .u64 i83), (.int .u64 i84), (.int .i64 i85), (.int .i64 i86), (.int .u64 i87), (.int .u32 i88), (.slice p89 n90 c91)]), (.agg #[(.int .u64 i92), (.string s93), (.bool b94), (.int .u64 i95), (.int .u64 i96), (.int .u64 i97), (.int .i64 i98), (.int .i64 i99), (.int .u64 i100), (.int .u32 i101), (.slice p102 n103 c104)])] h78 fun r105 h106 =>
    (((r105 = (.bool true) ∧
    (∃ i107 : Int, ∃ s108 : ByteArray, ∃ b109 : Bool, ∃ i110 : Int, ∃ i111 : Int, ∃ i112 : Int, ∃ i113 : Int, ∃ i114 : Int, ∃ i115 : Int, ∃ i116 : Int, ∃ (p117 : Option Addr) (n118 c119 : Nat), ldN h106 h44.next 0 11 = some ([(.int .u64 i107), (.string s108), (.bool b109), (.int .u64 i110), (.int .u64 i111), (.int .u64 i112), (.int .i64 i113), (.int .i64 i114), (.int .u64 i115), (.int .u32 i116), (.slice p117 n118 c119)] : List Value) ∧
    (∃ i120 : Int, ∃ s121 : ByteArray, ∃ b122 : Bool, ∃ i123 : Int, ∃ i124 : Int, ∃ i125 : Int, ∃ i126 : Int, ∃ i127 : Int, ∃ i128 : Int, ∃ i129 : Int, ∃ (p130 : Option Addr) (n131 c132 : Nat), ldN h106 h62.next 0 11 = some ([(.int .u64 i120), (.string s121), (.bool b122), (.int .u64 i123), (.int .u64 i124), (.int .u64 i125), (.int .i64 i126), (.int .i64 i127), (.int .u64 i128), (.int .u32 i129), (.slice p130 n131 c132)] : List Value) ∧
    (Wf Try.prog K 27 [(.agg #[(.int .u64 i107), (.string s108), (.bool b109), (.int .u64 i110), (.int .u64 i111), (.int .u64 i112), (.int .i64 i113), (.int .i64 i114), (.int .u64 i115), (.int .u32 i116), (.slice p117 n118 c119)]), (.agg #[(.int .u64 i120), (.string s121), (.bool b122), (.int .u64 i123), (.int .u64 i124), (.int .u64 i125), (.int .i64 i126), (.int .i64 i127), (.int .u64 i128), (.int .u32 i129), (.slice p130 n131 c132)])] h106 fun r133 h134 =>
    (((r133 = (.bool true) ∧
    (((i58 : Int) = i76 → Wf Try.prog K 20 [(.slice p6 n c8), (.int .u64 id)] h134 fun r135 h136 =>
    (∃ s137 : ByteArray, r135 = (.string s137) ∧
    (Wf Try.prog K 28 [(.slice p n c), (.int .u64 id)] h136 fun r138 h139 =>
    (∃ s140 : ByteArray, r138 = (.string s140) ∧
    ((s137 = s140 → Wf Try.prog K 29 [(.slice p n c), (.int .u64 id)] h139 fun r141 h142 =>
    (∃ (p143 : Option Addr) (n144 c145 : Nat), ∃ (p146 : Option Addr) (n147 c148 : Nat), r141 = (.tuple #[(.slice p143 n144 c145), (.slice p146 n147 c148)]) ∧
    (Wf Try.prog K 30 [(.slice p n c), (.int .u64 id)] h142 fun r149 h150 =>
    (∃ (p151 : Option Addr) (n152 c153 : Nat), ∃ i154 : Int, r149 = (.tuple #[(.slice p151 n152 c153), (.int .u64 i154)]) ∧
    (Wf Try.prog K 21 [(.slice p6 n c8), (.int .u64 id)] h150 fun r155 h156 =>
    (∃ i157 : Int, r155 = (.int .u64 i157) ∧
    (Wf Try.prog K 31 [(.slice p n c), (.int .u64 id)] h156 fun r158 h159 =>
    (∃ i160 : Int, r158 = (.int .u64 i160) ∧
    (((i157 : Int) = i160 → Wf Try.prog K 16 [(.slice p6 n c8), (.int .u64 id)] h159 fun r161 h162 =>
    (∃ (p163 : Option Addr) (n164 c165 : Nat), r161 = (.slice p163 n164 c165) ∧
    (Wf Try.prog K 32 [(.slice p163 n164 c165), (.slice p146 n147 c148)] h162 fun r166 h167 =>
    (((r166 = (.bool true) ∧
    (Wf Try.prog K 22 [(.slice p6 n c8), (.int .u64 id)] h167 fun r168 h169 =>
    (∃ (p170 : Option Addr) (n171 c172 : Nat), r168 = (.slice p170 n171 c172) ∧
    (Wf Try.prog K 32 [(.slice p170 n171 c172), (.slice p151 n152 c153)] h169 fun r173 h174 =>
    (((r173 = (.bool true) ∧
    (Wf Try.prog K 18 [(.slice p6 n c8), (.int .u64 id)] h174 fun r175 h176 =>
    (∃ i177 : Int, r175 = (.int .u64 i177) ∧
    (((i177 : Int) = i154 → Wf Try.prog K 19 [(.slice p6 n c8), (.int .u64 id)] h176 fun r178 h179 =>
    (∃ i180 : Int, r178 = (.int .u64 i180) ∧
    (Wf Try.prog K 33 [(.slice p n c), (.int .u64 id)] h179 fun r181 h182 =>
    (∃ i183 : Int, r181 = (.int .u64 i183) ∧
    (((i180 : Int) = i183 → Wf Try.prog K 34 [(.slice p6 n c8), (.slice p n c)] h182 fun r184 h185 =>
    (((r184 = (.bool true) ∧
    ((Value.bool true = Value.bool true))) ∨ (r184 = (.bool false) ∧
    ((Value.bool false = Value.bool true)))))) ∧
    (¬ (i180 : Int) = i183 → (Value.bool false = Value.bool true))))))) ∧
    (¬ (i177 : Int) = i154 → (Value.bool false = Value.bool true)))))) ∨ (r173 = (.bool false) ∧
    ((Value.bool false = Value.bool true))))))))) ∨ (r166 = (.bool false) ∧
    ((Value.bool false = Value.bool true)))))))) ∧
    (¬ (i157 : Int) = i160 → (Value.bool false = Value.bool true))))))))))) ∧
    (¬ s137 = s140 → (Value.bool false = Value.bool true))))))) ∧
    (¬ (i58 : Int) = i76 → (Value.bool false = Value.bool true)))) ∨ (r133 = (.bool false) ∧
    ((Value.bool false = Value.bool true))))))))) ∨ (r105 = (.bool false) ∧
    ((Value.bool false = Value.bool true))))))))))))) := by
  have hn := T.1
  have hn32 := R.2.1
  have hn40 : n ≤ 1000 := by omega
  have hz := R.zero
  have hz' := R'.zero
  have hid : ∀ r ∈ rs', (Lit.int .u64 r.id).wf = true := fun r hr => (T'.ok r hr).id
  refine (namedSpec kk.named T' R'.calOk hid f hf).mono ?_
  rintro v43 g44 ⟨q43, o44⟩
  obtain ⟨x, i58, rfl, okx, hx⟩ : ∃ (x : SetR) (e : Int), v43 = .tuple #[.agg (setC x).toArray, .int .i64 e] ∧ SetOk g44 x ∧ ((∃ a b i r, SplitOk f a b ∧ lookN rs' a b = some i ∧ rs'[i]? = some r ∧ cor x = cor r ∧ e = 0) ∨ (∃ a b, SplitOk f a b ∧ lookN rs' a b = none ∧ x = zeroR ∧ e = 161) ∨ ((∀ a b, ¬ SplitOk f a b) ∧ x = zeroR ∧ e = 141)) := by
    rcases q43 with ⟨a', b', s1, ⟨i, r, p', c', s2, s3, rfl, s4⟩ | ⟨s2, rfl⟩⟩ | ⟨s1, rfl⟩
    · exact ⟨_, _, rfl, s4, .inl ⟨a', b', i, r, s1, s2, s3, rfl, rfl⟩⟩
    · exact ⟨_, _, rfl, zeroSet _, .inr (.inl ⟨a', b', s1, s2, rfl, rfl⟩)⟩
    · exact ⟨_, _, rfl, zeroSet _, .inr (.inr ⟨s1, rfl, rfl⟩)⟩
  refine ⟨_, _, _, _, _, _, _, _, _, _, _, _, _, _, rfl, fun g59 e59 => ?_⟩
  obtain ⟨g60, k60, n60, o60, v60⟩ := put_new e59 (vs := setC x) rfl
  have w60 := v60 [] (fun c hc => by cases hc)
  have o4 := o44.trans o60
  refine ⟨rfl, g60, k60, (named16 kk.r16 (T.old o4) R f hf).mono ?_⟩
  rintro v61 g62 ⟨q61, o62⟩
  obtain ⟨y, i76, rfl, oky, hxy, rfl⟩ : ∃ (y : SetR) (e : Int), v61 = .tuple #[.agg (setC y).toArray, .int .i64 e] ∧ SetOk g62 y ∧ cor x = cor y ∧ i58 = e := by
    rcases q61 with ⟨a', b', s1, ⟨i, r, s2, s3, rfl⟩ | ⟨s2, rfl⟩⟩ | ⟨s1, rfl⟩
    · refine ⟨_, _, rfl, (T.old (o4.trans o62)).ok r (List.mem_of_getElem? s3), ?_⟩
      rcases hx with ⟨a2, b2, i2, r2, t1, t2, t3, t4, rfl⟩ | ⟨a2, b2, t1, t2, -⟩ | ⟨t1, -⟩
      · obtain ⟨rfl, rfl⟩ := s1.uniq t1
        rw [lookN_cor hc, s2] at t2
        cases t2
        obtain ⟨r3, u1, u2⟩ := cor_at hc t3
        rw [s3] at u1
        cases u1
        exact ⟨t4.trans u2, rfl⟩
      · obtain ⟨rfl, rfl⟩ := s1.uniq t1
        rw [lookN_cor hc, s2] at t2
        cases t2
      · exact absurd s1 (t1 _ _)
    · refine ⟨_, _, rfl, zeroSet _, ?_⟩
      rcases hx with ⟨a2, b2, i2, r2, t1, t2, t3, t4, rfl⟩ | ⟨a2, b2, t1, t2, rfl, rfl⟩ | ⟨t1, -⟩
      · obtain ⟨rfl, rfl⟩ := s1.uniq t1
        rw [lookN_cor hc, s2] at t2
        cases t2
      · exact ⟨rfl, rfl⟩
      · exact absurd s1 (t1 _ _)
    · refine ⟨_, _, rfl, zeroSet _, ?_⟩
      rcases hx with ⟨a2, b2, i2, r2, t1, t2, t3, t4, rfl⟩ | ⟨a2, b2, t1, t2, rfl, rfl⟩ | ⟨t1, rfl, rfl⟩
      · exact absurd t1 (s1 _ _)
      · exact absurd t1 (s1 _ _)
      · exact ⟨rfl, rfl⟩
  refine ⟨_, _, _, _, _, _, _, _, _, _, _, _, _, _, rfl, fun g77 e77 => ?_⟩
  obtain ⟨g78, k78, n78, o78, v78⟩ := put_new e77 (vs := setC y) rfl
  have w78 := v78 [] (fun c hc => by cases hc)
  have o8 := o4.trans (o62.trans o78)
  refine ⟨rfl, g78, k78, _, _, _, _, _, _, _, _, _, _, _, _, _, ldN_all ((o8.2 _ lb).trans cb) rfl, _, _, _, _, _, _, _, _, _, _, _, _, _, ldN_all ((o8.2 _ lt).trans ct) rfl, (same15 kk.r16.r15 (ka.old o8) (kb.old o8)).mono ?_⟩
  rintro _ g106 ⟨⟨rfl, -⟩ | ⟨-, z⟩, o106⟩
  rotate_left
  · exact absurd hab z
  have w6 := (w60.old (o62.trans o78)).old o106
  refine .inl ⟨rfl, _, _, _, _, _, _, _, _, _, _, _, _, _, ldN_all w6.1 rfl, _, _, _, _, _, _, _, _, _, _, _, _, _, ldN_all (w78.old o106).1 rfl, (same15 kk.r16.r15 (((okx.old o60).old (o62.trans o78)).old o106) ((oky.old o78).old o106)).mono ?_⟩
  rintro _ g134 ⟨⟨rfl, -⟩ | ⟨-, z⟩, o134⟩
  rotate_left
  · exact absurd hxy z
  have o9 := o8.trans (o106.trans o134)
  refine .inl ⟨rfl, fun _ => (fullSpec kk.named.name kk.full kk.hang.place (T'.old o9) R'.names id).mono ?_, fun z => absurd rfl z⟩
  rintro _ g136 ⟨rfl, o136⟩
  refine ⟨_, rfl, (full16 kk.r16 (T.old (o9.trans o136)) R id).mono ?_⟩
  rintro _ g139 ⟨rfl, o139⟩
  have o10 := o9.trans (o136.trans o139)
  refine ⟨_, rfl, fun _ => (kids16 kk.r16 (T.old o10) hn40 id).mono ?_, fun z => absurd (fullR_cor hc id) z⟩
  rintro _ g142 ⟨p1, n1, c1, p2, n2, c2, rfl, S1, S2, o142⟩
  refine ⟨_, _, _, _, _, _, rfl, (back16 kk.r16 (T.old (o10.trans o142)) hz hn40 id).mono ?_⟩
  rintro _ g150 ⟨p3, n3, c3, rfl, S3, o150⟩
  have o11 := o10.trans (o142.trans o150)
  refine ⟨_, _, _, _, rfl, (nextSpec kk.next kk.hang (T'.old o11) id).mono ?_⟩
  rintro _ g156 ⟨rfl, o156⟩
  refine ⟨_, rfl, (next16 kk.r16 (T.old (o11.trans o156)) hn40 id).mono ?_⟩
  rintro _ g159 ⟨rfl, o159⟩
  have o12 := o11.trans (o156.trans o159)
  refine ⟨_, rfl, fun _ => (clonesSpec kk.clones kk.hang (T'.old o12) hn40 id).mono ?_, fun z => absurd (nextR_cor hc id) z⟩
  rintro _ g162 ⟨p4, n4, c4, rfl, G4, o162⟩
  have hl4 : n4 ≤ 1000000000000000 := by
    have h1 := G4.1
    rw [u64I_len, clL_cor hc] at h1
    have h2 := clL_len rs id
    omega
  refine ⟨_, _, _, rfl, (same02 kk.nums G4.shows hl4 (S2.old (((o150.trans o156).trans o159).trans o162))).mono ?_⟩
  rintro _ _ ⟨⟨rfl, -⟩ | ⟨-, z⟩, rfl⟩
  rotate_left
  · exact absurd (clL_cor hc id) z
  have o13 := o12.trans o162
  refine .inl ⟨rfl, (chainSpec kk.chain kk.way kk.hang.place (T'.old o13) id).mono ?_⟩
  rintro _ g169 ⟨p5, n5, c5, rfl, G5, o169⟩
  have e5 : (wayR rs' id).1 = (backR rs id).1 := by rw [wayR_cor hc, R.back]
  have hl5 : n5 ≤ 1000000000000000 := by
    have h1 := G5.1
    rw [u64I_len] at h1
    have h2 := wayR_len rs' id
    omega
  refine ⟨_, _, _, rfl, (same02 kk.nums G5.shows hl5 (S3.old (((o156.trans o159).trans o162).trans o169))).mono ?_⟩
  rintro _ _ ⟨⟨rfl, -⟩ | ⟨-, z⟩, rfl⟩
  rotate_left
  · exact absurd e5 z
  have o14 := o13.trans o169
  refine .inl ⟨rfl, (originSpec kk.origin kk.way kk.hang.place (T'.old o14) id).mono ?_⟩
  rintro _ g176 ⟨rfl, o176⟩
  refine ⟨_, rfl, fun _ => (floorSpec kk.floor kk.hang.place (T'.old (o14.trans o176)) id).mono ?_, fun z => absurd (by rw [wayR_cor hc, R.back]) z⟩
  rintro _ _ ⟨rfl, rfl⟩
  refine ⟨_, rfl, (floor16 kk.r16 (T.old (o14.trans o176)) hz id).mono ?_⟩
  rintro _ g182 ⟨rfl, o182⟩
  have o15 := (o14.trans o176).trans o182
  refine ⟨_, rfl, fun _ => (sameList15 kk.r16.r15 (T'.old o15) (T.old o15)).mono ?_, fun z => absurd (flr_cor hc id) z⟩
  rintro _ g185 ⟨⟨rfl, -⟩ | ⟨-, z⟩, o185⟩
  · exact .inl ⟨rfl, rfl⟩
  · exact absurd hc z
theorem tellsTrue (hk : K 8 = none) (ha : K 12 = some (.sum xTrue)) (kk : KTells K) (T : Sets h p n rs) (id : Int) (f : ByteArray) (hf : f.size ≤ 9223372036854775806) :
    Wf Try.prog K 8 [.slice p n c, .int .u64 id, .string f] h fun v _ => v = .bool true := by
  have hn := T.1
  refine vc_aquiferlaw16_FamilyTells hk _ _ _ _ _ h _ (Wf_sum ha (v := .bool true) (h' := h) rfl (Nat.le_refl _) (.inl ⟨rfl, fun _ => rfl, fun hn40 => (right16 kk.r16 kk.right T _).mono ?_⟩))
  rintro _ g3 ⟨⟨rfl, R⟩ | ⟨rfl, -⟩, o3⟩
  rotate_left
  · exact .inr ⟨rfl, rfl⟩
  have hn32 := R.2.1
  refine .inl ⟨rfl, (copy15 kk.r16.r15 (T.old o3) (by omega)).mono ?_⟩
  rintro _ g5 ⟨p6, c8, rs', rfl, T', hc, o5⟩
  have R' : RightP 281474976710655 rs' := R.cor hc.symm
  have oA := o3.trans o5
  refine ⟨_, _, _, rfl, (findSpec kk.find kk.hang.place kk.copy T' id).mono ?_⟩
  rintro _ g10 ⟨⟨i, r, p', c', f1, f2, rfl, ok⟩ | ⟨f1, rfl⟩, o10⟩
  · refine ⟨_, _, _, _, _, _, _, _, _, _, _, _, _, .inl ⟨rfl, fun g24 e24 => ?_⟩⟩
    obtain ⟨g25, k25, n25, o25, v25⟩ := put_new e24 (vs := setC { r with dp := p', dc := c' }) rfl
    have w25 := v25 [] (fun c hc => by cases hc)
    have oB := oA.trans (o10.trans o25)
    refine ⟨rfl, g25, k25, (find16 kk.r16 (T.old oB) id).mono ?_⟩
    rintro _ g27 ⟨⟨j, x, m1, m2, rfl⟩ | ⟨m1, -⟩, o27⟩
    rotate_left
    · rw [plcN_cor hc, m1] at f1; cases f1
    rw [plcN_cor hc, m1] at f1
    cases f1
    refine ⟨_, _, _, _, _, _, _, _, _, _, _, _, _, .inl ⟨rfl, fun g41 e41 => ?_⟩⟩
    obtain ⟨g42, k42, n42, o42, v42⟩ := put_new e41 (vs := setC x) rfl
    have w42 := v42 [] (fun c hc => by cases hc)
    have oC := oB.trans (o27.trans o42)
    obtain ⟨x', y1, y2⟩ := cor_at hc f2
    rw [m2] at y1
    cases y1
    have w5 := w25.old (o27.trans o42)
    exact ⟨rfl, g42, k42, tellsTail kk (T.old oC) (T'.old ((o10.trans o25).trans (o27.trans o42))) hc R R' hf w5.1 w5.2.1 ((ok.old o25).old (o27.trans o42)) w42.1 w42.2.1 ((T.old oC).ok x (List.mem_of_getElem? m2)) y2⟩
  · refine ⟨_, _, _, _, _, _, _, _, _, _, _, _, _, .inr ⟨rfl, fun g24 e24 => ?_⟩⟩
    obtain ⟨g25, k25, n25, o25, v25⟩ := put_new e24 (vs := setC zeroR) rfl
    have w25 := v25 [] (fun c hc => by cases hc)
    have oB := oA.trans (o10.trans o25)
    refine ⟨rfl, g25, k25, (find16 kk.r16 (T.old oB) id).mono ?_⟩
    rintro _ g27 ⟨⟨j, x, m1, m2, rfl⟩ | ⟨m1, rfl⟩, o27⟩
    · rw [plcN_cor hc, m1] at f1; cases f1
    refine ⟨_, _, _, _, _, _, _, _, _, _, _, _, _, .inr ⟨rfl, fun g41 e41 => ?_⟩⟩
    obtain ⟨g42, k42, n42, o42, v42⟩ := put_new e41 (vs := setC zeroR) rfl
    have w42 := v42 [] (fun c hc => by cases hc)
    have oC := oB.trans (o27.trans o42)
    have w5 := w25.old (o27.trans o42)
    exact ⟨rfl, g42, k42, tellsTail kk (T.old oC) (T'.old ((o10.trans o25).trans (o27.trans o42))) hc R R' hf w5.1 w5.2.1 (zeroSet _) w42.1 w42.2.1 (zeroSet _) rfl⟩
end
end Go.Am
