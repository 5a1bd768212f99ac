/-
  SCRIPTS AS BYTES, in plain terms: texts joined, texts split, what an op is as bytes, what of bytes is a script.
-/
import Derived.Test.YtbadadkkpihkfaaGreatAmH
set_option linter.unusedVariables false
set_option linter.unusedSimpArgs false
namespace Go.Am
abbrev Bs := List Nat
def flatB (ts : List Bs) : Bs := (ts.map fun t => byB 2 t.length ++ t).flatten
def joinB (ts : List Bs) : Bs := byB 2 ts.length ++ flatB ts
theorem byB2 (n : Nat) : byB 2 n = [n % 256, n / 256 % 256] := by simp [byB, List.range_succ]
theorem flatB_app (ts us : List Bs) : flatB (ts ++ us) = flatB ts ++ flatB us := by simp [flatB]
theorem flatB_one (t : Bs) : flatB [t] = byB 2 t.length ++ t := by simp [flatB]
theorem flatB_cons (t : Bs) (ts : List Bs) : flatB (t :: ts) = byB 2 t.length ++ t ++ flatB ts := by simp [flatB]
def parse : Nat → Bs → Option (List Bs)
  | 0, [] => some []
  | 0, _ :: _ => none
  | k + 1, x :: y :: r => if x + 256 * y ≤ r.length then (parse k (r.drop (x + 256 * y))).map (r.take (x + 256 * y) :: ·) else none
  | _ + 1, _ => none
def splitB : Bs → Option (List Bs)
  | x :: y :: r => parse (x + 256 * y) r
  | _ => none
theorem parse_flat : ∀ (ts : List Bs), (∀ t ∈ ts, t.length < 65536) → parse ts.length (flatB ts) = some ts
  | [], _ => rfl
  | t :: ts, h => by
    have ht := h t List.mem_cons_self
    have e : t.length % 256 + 256 * (t.length / 256 % 256) = t.length := by omega
    rw [flatB_cons, byB2]
    show (if t.length % 256 + 256 * (t.length / 256 % 256) ≤ (t ++ flatB ts).length then (parse ts.length ((t ++ flatB ts).drop (t.length % 256 + 256 * (t.length / 256 % 256)))).map ((t ++ flatB ts).take (t.length % 256 + 256 * (t.length / 256 % 256)) :: ·) else none) = _
    rw [e, if_pos (by simp), List.drop_left, List.take_left, parse_flat ts fun u hu => h u (List.mem_cons_of_mem _ hu)]
    rfl
theorem split_join {ts : List Bs} (hl : ts.length < 65536) (h : ∀ t ∈ ts, t.length < 65536) : splitB (joinB ts) = some ts := by
  unfold joinB
  rw [byB2]
  show parse (ts.length % 256 + 256 * (ts.length / 256 % 256)) (flatB ts) = some ts
  rw [show ts.length % 256 + 256 * (ts.length / 256 % 256) = ts.length by omega]
  exact parse_flat ts h
theorem parse_len : ∀ {k : Nat} {b : Bs} {ts : List Bs}, parse k b = some ts → ts.length = k
  | 0, [], ts, h => by cases h; rfl
  | 0, _ :: _, ts, h => by cases h
  | k + 1, [], ts, h => by cases h
  | k + 1, [_], ts, h => by cases h
  | k + 1, x :: y :: r, ts, h => by
    unfold parse at h
    split at h
    · cases hp : parse k (r.drop (x + 256 * y)) with
      | none => rw [hp] at h; cases h
      | some us => rw [hp] at h; cases h; rw [List.length_cons, parse_len hp]
    · cases h
theorem parse_lt : ∀ {k : Nat} {b : Bs} {ts : List Bs}, (∀ x ∈ b, x < 256) → parse k b = some ts → ∀ t ∈ ts, t.length < 65536 ∧ ∀ x ∈ t, x < 256
  | 0, [], ts, _, h => by cases h; intro t ht; cases ht
  | 0, _ :: _, ts, _, h => by cases h
  | k + 1, [], ts, _, h => by cases h
  | k + 1, [_], ts, _, h => by cases h
  | k + 1, x :: y :: r, ts, hb, h => by
    have hx := hb x (by simp)
    have hy := hb y (by simp)
    unfold parse at h
    split at h
    · rename_i hle
      cases hp : parse k (r.drop (x + 256 * y)) with
      | none => rw [hp] at h; cases h
      | some us =>
        rw [hp] at h
        cases h
        intro t ht
        rcases List.mem_cons.1 ht with rfl | ht
        · exact ⟨by rw [List.length_take]; omega, fun z hz => hb z (List.mem_cons_of_mem _ (List.mem_cons_of_mem _ (List.mem_of_mem_take hz)))⟩
        · exact parse_lt (fun z hz => hb z (List.mem_cons_of_mem _ (List.mem_cons_of_mem _ (List.mem_of_mem_drop hz)))) hp t ht
    · cases h
theorem split_lt {b : Bs} {ts : List Bs} (hb : ∀ x ∈ b, x < 256) (h : splitB b = some ts) : ts.length < 65536 ∧ ∀ t ∈ ts, t.length < 65536 ∧ ∀ x ∈ t, x < 256 := by
  match b, h with
  | [], h => cases h
  | [_], h => cases h
  | x :: y :: r, h =>
    have hx := hb x (by simp)
    have hy := hb y (by simp)
    have e := parse_len h
    exact ⟨by omega, parse_lt (fun z hz => hb z (List.mem_cons_of_mem _ (List.mem_cons_of_mem _ hz))) h⟩
/-! ## Texts of signs -/
def strB (s : ByteArray) : Bs := s.data.toList.map UInt8.toNat
def strOf (b : Bs) : ByteArray := ⟨(b.map UInt8.ofNat).toArray⟩
theorem strB_len (s : ByteArray) : (strB s).length = s.size := by
  rw [strB, List.length_map, Array.length_toList]
  rfl
theorem strB_lt {s : ByteArray} {x : Nat} (h : x ∈ strB s) : x < 256 := by
  simp only [strB, List.mem_map] at h
  obtain ⟨u, -, rfl⟩ := h
  exact u.toNat_lt
theorem strOf_B (s : ByteArray) : strOf (strB s) = s := by
  obtain ⟨d⟩ := s
  simp only [strOf, strB, List.map_map]
  congr 1
  apply Array.toList_inj.1
  simp only [List.toList_toArray]
  conv => rhs; rw [← List.map_id d.toList]
  exact List.map_congr_left fun u _ => by simp
theorem strB_of {b : Bs} (h : ∀ x ∈ b, x < 256) : strB (strOf b) = b := by
  simp only [strOf, strB, List.map_map]
  conv => rhs; rw [← List.map_id b]
  refine List.map_congr_left fun u hu => ?_
  have := h u hu
  show (UInt8.ofNat u).toNat = u
  simp; omega
theorem strB_inj {s t : ByteArray} (h : strB s = strB t) : s = t := by rw [← strOf_B s, h, strOf_B]
theorem strOf_inj {a b : Bs} (ha : ∀ x ∈ a, x < 256) (hb : ∀ x ∈ b, x < 256) (h : strOf a = strOf b) : a = b := by rw [← strB_of ha, h, strB_of hb]
/-! ## Ops -/
structure OpP where
  kind : Int
  name : ByteArray
  to : ByteArray
  n : Int
  data : Bs
  keep : List Bool
def keepB (k : List Bool) : Bs := k.map fun b => if b then 1 else 0
theorem keepB_len (k : List Bool) : (keepB k).length = k.length := by simp [keepB]
theorem keepB_le {k : List Bool} {x : Nat} (h : x ∈ keepB k) : x ≤ 1 := by
  simp only [keepB, List.mem_map] at h
  obtain ⟨b, -, rfl⟩ := h
  split <;> omega
def keepOf (b : Bs) : List Bool := b.map fun x => decide (0 < x)
theorem keepOf_B (k : List Bool) : keepOf (keepB k) = k := by
  simp only [keepOf, keepB, List.map_map]
  conv => rhs; rw [← List.map_id k]
  exact List.map_congr_left fun b _ => by cases b <;> rfl
theorem keepB_of {b : Bs} (h : ∀ x ∈ b, x ≤ 1) : keepB (keepOf b) = b := by
  simp only [keepOf, keepB, List.map_map]
  conv => rhs; rw [← List.map_id b]
  refine List.map_congr_left fun x hx => ?_
  have := h x hx
  show (if decide (0 < x) = true then 1 else 0) = x
  by_cases h0 : 0 < x
  · simp [h0]; omega
  · simp [h0]; omega
def nB (n : Int) : Nat := if n < 0 then 65535 else n.toNat
def nOf (m : Nat) : Int := if m = 65535 then -1 else m
def hN (k : Int) : Prop := (0 ≤ k ∧ k ≤ 3) ∨ k = 10 ∨ k = 12
def hName (k : Int) : Prop := 0 ≤ k ∧ k ≤ 8
def hTo (k : Int) : Prop := k = 5
def hData (k : Int) : Prop := k = 1 ∨ k = 12
def hKeep (k : Int) : Prop := k = 11
structure OpOk (o : OpP) : Prop where
  lo : 0 ≤ o.kind
  hi : o.kind ≤ 12
  name : hName o.kind ∨ o.name.size = 0
  nameL : o.name.size ≤ 60
  to : hTo o.kind ∨ o.to.size = 0
  toL : o.to.size ≤ 60
  n : hN o.kind ∨ o.n = 0
  nLo : -1 ≤ o.n
  nHi : o.n ≤ 65534
  data : hData o.kind ∨ o.data.length = 0
  dataL : o.data.length ≤ 129
  keep : hKeep o.kind ∨ o.keep.length = 0
  keepL : o.keep.length ≤ 64
def headB (o : OpP) : Bs := enc [1, 2] [o.kind.toNat, nB o.n]
def opTs (o : OpP) : List Bs := [headB o, strB o.name, strB o.to, o.data, keepB o.keep]
def opB (o : OpP) : Bs := joinB (opTs o)
theorem headB_eq (o : OpP) : headB o = [o.kind.toNat % 256, nB o.n % 256, nB o.n / 256 % 256] := by simp [headB, enc, byB, List.range_succ]
theorem headB_len (o : OpP) : (headB o).length = 3 := by rw [headB_eq]; rfl
theorem nB_lt {n : Int} (h : n ≤ 65534) : nB n < 65536 := by unfold nB; split <;> omega
theorem nOf_B {n : Int} (h1 : -1 ≤ n) (h2 : n ≤ 65534) : nOf (nB n) = n := by unfold nB nOf; split <;> split <;> omega
theorem nB_of {m : Nat} (h : m < 65536) : nB (nOf m) = m := by unfold nB nOf; split <;> split <;> omega
theorem opTs_lt {o : OpP} (k : OpOk o) : ∀ t ∈ opTs o, t.length < 65536 := by
  intro t ht
  simp only [opTs, List.mem_cons, List.not_mem_nil, or_false] at ht
  rcases ht with rfl | rfl | rfl | rfl | rfl
  · rw [headB_len]; omega
  · rw [strB_len]; have := k.nameL; omega
  · rw [strB_len]; have := k.toL; omega
  · have := k.dataL; omega
  · rw [keepB_len]; have := k.keepL; omega
theorem flatB_len : ∀ (ts : List Bs), (flatB ts).length = (ts.map fun t => 2 + t.length).sum
  | [] => rfl
  | t :: ts => by rw [flatB_cons, List.map_cons, List.sum_cons, List.length_append, List.length_append, byB_len, flatB_len ts]
theorem joinB_len (ts : List Bs) : (joinB ts).length = 2 + (ts.map fun t => 2 + t.length).sum := by rw [joinB, List.length_append, byB_len, flatB_len]
theorem opB_len {o : OpP} (k : OpOk o) : (opB o).length ≤ 400 := by
  rw [opB, joinB_len]
  simp only [opTs, List.map_cons, List.map_nil, List.sum_cons, List.sum_nil, headB_len, strB_len, keepB_len]
  have := k.nameL; have := k.toL; have := k.dataL; have := k.keepL
  omega
theorem joinB_lt {ts : List Bs} (h : ∀ t ∈ ts, ∀ x ∈ t, x < 256) : ∀ x ∈ joinB ts, x < 256 := by
  intro x hx
  rw [joinB, List.mem_append] at hx
  rcases hx with hx | hx
  · exact byB_lt hx
  · simp only [flatB, List.mem_flatten, List.mem_map] at hx
    obtain ⟨l, ⟨t, ht, rfl⟩, hx⟩ := hx
    rw [List.mem_append] at hx
    rcases hx with hx | hx
    · exact byB_lt hx
    · exact h t ht x hx
theorem opB_lt {o : OpP} (hd : ∀ x ∈ o.data, x < 256) : ∀ x ∈ opB o, x < 256 := by
  refine joinB_lt fun t ht x hx => ?_
  simp only [opTs, List.mem_cons, List.not_mem_nil, or_false] at ht
  rcases ht with rfl | rfl | rfl | rfl | rfl
  · exact enc_lt _ _ hx
  · exact strB_lt hx
  · exact strB_lt hx
  · exact hd x hx
  · have := keepB_le hx; omega
/-- What a text is as an op, whether it can be or not. -/
def opOf (b : Bs) : Option OpP := match splitB b with
  | some [[x, y, z], nm, to, d, k] => some ⟨x, strOf nm, strOf to, nOf (y + 256 * z), d, keepOf k⟩
  | _ => none
theorem opOf_B {o : OpP} (k : OpOk o) : opOf (opB o) = some o := by
  unfold opOf
  rw [opB, split_join (by simp [opTs]) (opTs_lt k), opTs, headB_eq]
  simp only []
  have h1 := k.lo
  have h2 := k.hi
  have h3 := nB_lt k.nHi
  rw [strOf_B, strOf_B, keepOf_B, show nB o.n % 256 + 256 * (nB o.n / 256 % 256) = nB o.n by omega, nOf_B k.nLo k.nHi, show ((o.kind.toNat % 256 : Nat) : Int) = o.kind by omega]
/-! ## Scripts -/
structure ScrP where
  secs : Int
  ops : List OpP
structure ScrOk (s : ScrP) : Prop where
  lo : 64 ≤ s.secs
  hi : s.secs ≤ 1024
  len : s.ops.length ≤ 200
  ops : ∀ o ∈ s.ops, OpOk o
def scrTs (s : ScrP) : List Bs := byB 2 s.secs.toNat :: s.ops.map opB
def scrB (s : ScrP) : Bs := joinB (scrTs s)
theorem scrTs_lt {s : ScrP} (k : ScrOk s) : ∀ t ∈ scrTs s, t.length < 65536 := by
  intro t ht
  rcases List.mem_cons.1 ht with rfl | ht
  · rw [byB_len]; omega
  · obtain ⟨o, ho, rfl⟩ := List.mem_map.1 ht
    have := opB_len (k.ops o ho)
    omega
def opsOf : List Bs → Option (List OpP)
  | [] => some []
  | t :: ts => match opOf t with
    | some o => (opsOf ts).map (o :: ·)
    | none => none
/-- What bytes seem to say. -/
def scrOf (b : Bs) : Option ScrP := match splitB b with
  | some ([x, y] :: ts) => (opsOf ts).map fun os => ⟨(x + 256 * y : Nat), os⟩
  | _ => none
theorem opsOf_B : ∀ {os : List OpP}, (∀ o ∈ os, OpOk o) → opsOf (os.map opB) = some os
  | [], _ => rfl
  | o :: os, h => by
    rw [List.map_cons, opsOf, opOf_B (h o List.mem_cons_self)]
    simp only []
    rw [opsOf_B fun x hx => h x (List.mem_cons_of_mem _ hx)]
    rfl
theorem scrOf_B {s : ScrP} (k : ScrOk s) : scrOf (scrB s) = some s := by
  unfold scrOf
  have h1 := k.lo
  have h2 := k.hi
  rw [scrB, split_join (by have := k.len; simp [scrTs]; omega) (scrTs_lt k), scrTs, byB2]
  simp only []
  rw [opsOf_B k.ops]
  simp only [Option.map_some]
  rw [show s.secs.toNat % 256 + 256 * (s.secs.toNat / 256 % 256) = s.secs.toNat by omega, Int.toNat_of_nonneg (by omega)]
/-- The script of bytes. -/
def ScrIs (b : Bs) (s : ScrP) : Prop := ScrOk s ∧ scrB s = b
theorem ScrIs.det {b : Bs} {s t : ScrP} (k : ScrIs b s) (l : ScrIs b t) : s = t := by
  have h1 := scrOf_B k.1
  have h2 := scrOf_B l.1
  rw [k.2] at h1
  rw [l.2] at h2
  rw [h1] at h2
  cases h2
  rfl
theorem opsOf_len : ∀ {ts : List Bs} {os : List OpP}, opsOf ts = some os → os.length = ts.length
  | [], os, h => by cases h; rfl
  | t :: ts, os, h => by
    unfold opsOf at h
    cases ho : opOf t with
    | none => rw [ho] at h; cases h
    | some o =>
      rw [ho] at h
      simp only [] at h
      cases hs : opsOf ts with
      | none => rw [hs] at h; cases h
      | some us => rw [hs] at h; cases h; rw [List.length_cons, List.length_cons, opsOf_len hs]
theorem opsOf_app : ∀ (ts : List Bs) (t : Bs), opsOf (ts ++ [t]) = match opsOf ts, opOf t with | some os, some o => some (os ++ [o]) | _, _ => none
  | [], t => by
    show (match opOf t with | some o => (opsOf []).map (o :: ·) | none => none) = _
    cases opOf t <;> rfl
  | u :: ts, t => by
    show (match opOf u with | some o => (opsOf (ts ++ [t])).map (o :: ·) | none => none) = match (match opOf u with | some o => (opsOf ts).map (o :: ·) | none => none), opOf t with | some os, some o => some (os ++ [o]) | _, _ => none
    rw [opsOf_app ts t]
    cases opOf u <;> cases opsOf ts <;> cases opOf t <;> rfl
end Go.Am
