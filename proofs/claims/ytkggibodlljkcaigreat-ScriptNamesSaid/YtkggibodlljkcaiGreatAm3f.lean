/-
  THE ABSTRACT MACHINE IS SOUND: regions that are drawn. What operations look at; kinds of operations; what comes before.
-/
import Derived.Test.YtkggibodlljkcaiGreatAm3d
set_option linter.unusedVariables false
set_option linter.unusedSimpArgs false
namespace Go.Am
variable {P : Program} {K : Xs} {φ φ' : Fi} {h h' : AH} {w w' : World}

theorem ev_congr {e e' : Env} {x : Operand} (h : ∀ t, x = .tmp t → e.get t = e'.get t) : ev e x = ev e' x := by
  cases x with
  | tmp t => rw [ev_tmp, ev_tmp, h t rfl]
  | _ => rfl
theorem aOp_congr {o : Oper} {e e' : Env} (hh : AH) (h : ∀ x ∈ o.op.operands, ev e x = ev e' x) : aOp P o e hh = aOp P o e' hh := by
  obtain ⟨dst, op, type, pos, after, guard⟩ := o
  have pairs : ∀ ps : Array (Nat × Operand), (∀ x ∈ ps.map (·.2), ev e x = ev e' x) →
      (ps.map fun (i, x) => (i, ev e x)) = (ps.map fun (i, x) => (i, ev e' x)) := fun ps hp =>
    Array.map_congr_left fun p hm => by
      obtain ⟨i, x⟩ := p
      simp only [hp x (Array.mem_map.2 ⟨(i, x), hm, rfl⟩)]
  cases op <;> simp only [Op.operands] at h <;> simp only [aOp]
  case build t ps => rw [pairs ps fun x hx => h x (by simpa using hx)]
  case buildSlice t n ps => rw [pairs ps fun x hx => h x (by simpa using hx)]
  case makeFunc fn first captured =>
    rw [Array.map_congr_left (xs := first) fun x hx => h x (by simp [hx]), Array.map_congr_left (xs := captured) fun x hx => h x (by simp [hx])]
  case call c =>
    obtain ⟨callee, args, ats⟩ := c
    cases callee <;> simp only
    rw [List.map_congr_left (l := args.toList) fun x hx => h x (by simp [Call.operands]; simpa using hx)]
  case slice t x lo hi mx => cases lo <;> cases hi <;> cases mx <;> simp_all
  case next it st => cases st <;> first | rfl | (simp_all; done)
  all_goals (first | rfl | (simp_all; done))
theorem runOp_congr {r : Ex} {o : Oper} {e e' : Env} (hh : AH) (h : ∀ x ∈ o.op.operands, ev e x = ev e' x) : runOp P K r o e hh = runOp P K r o e' hh := by
  obtain ⟨dst, op, type, pos, after, guard⟩ := o
  cases op
  case call c =>
    obtain ⟨callee, args, ats⟩ := c
    cases callee
    case value f =>
      simp only [runOp]
      rw [List.map_congr_left (l := args.toList) fun x hx => h x (by simp [Op.operands, Call.operands]; exact .inr (by simpa using hx)), h f (by simp [Op.operands, Call.operands])]
    all_goals (simp only [runOp]; exact aOp_congr hh h)
  all_goals (simp only [runOp]; exact aOp_congr hh h)
theorem mem_looks {ops : Array Oper} {o : Oper} {t : Tmp} (ht : .tmp t ∈ o.op.operands) : t ∈ looks ops o :=
  List.mem_append_left _ (List.mem_filterMap.2 ⟨.tmp t, by simpa using ht, rfl⟩)
theorem looks_ev {ops : Array Oper} {o : Oper} {e e' : Env} (h : ∀ t ∈ looks ops o, e.get t = e'.get t) : ∀ x ∈ o.op.operands, ev e x = ev e' x := fun x hx =>
  ev_congr fun t ht => h t (mem_looks (by rw [← ht]; exact hx))
theorem wantedA_congr {ops : Array Oper} {o : Oper} {e e' : Env} (h : ∀ t ∈ looks ops o, e.get t = e'.get t) : wantedA ops o e = wantedA ops o e' := by
  unfold wantedA
  cases hg : o.guard with
  | none => rfl
  | some g =>
    obtain ⟨j, w⟩ := g
    simp only
    cases hd : (ops[j]?).bind (·.dst) with
    | none => rfl
    | some d =>
      simp only
      rw [h d (List.mem_append_right _ (by simp [hg, hd]))]

/-! ## Kinds -/
def allocO (h : AH) : Option AObj → AH
  | none => h
  | some o => h.alloc o
theorem kind_read {o : Oper} {e : Env} {v : Value} (hk : opKind P o.op = 2) (hs : aOp P o e h = some (v, h')) : h' = h := by
  obtain ⟨dst, op, type, pos, after, guard⟩ := o
  have hm : ∀ (x : Option Value), x.map (·, h) = some (v, h') → h' = h := fun x hq => by
    obtain ⟨_, _, hq⟩ := Option.map_eq_some_iff.1 hq; cases hq; rfl
  cases op
  all_goals try (exfalso; simp [opKind] at hk; done)
  all_goals simp only [opKind] at hk
  all_goals simp only [aOp] at hs
  all_goals first
    | exact hm _ hs
    | skip
  case convert s d x =>
    unfold aConvert at hs
    repeat' split at hs
    all_goals first
      | (simp at hs; done)
      | (simp only [Option.some.injEq, Prod.mk.injEq] at hs; exact hs.2.symm)
      | (exfalso; simp_all; done)
  case call c =>
    obtain ⟨callee, args, ats⟩ := c
    cases callee
    case builtin b =>
      cases b
      case len =>
        dsimp only at hs
        generalize hb : Builtin.len = b at hs
        unfold aBuiltin at hs
        split at hs
        all_goals first
          | (simp at hs; done)
          | exact hm _ hs
          | (cases hb; done)
      all_goals simp at hk
    all_goals simp at hk
theorem kind_local {o : Oper} {e : Env} {v : Value} (hk : opKind P o.op = 0 ∨ opKind P o.op = 1) (hs : aOp P o e h = some (v, h')) :
    ∃ x : Option AObj, h' = allocO h x ∧ (opKind P o.op = 0 → x = none) ∧ ∀ h2 : AH, h2.next = h.next → aOp P o e h2 = some (v, allocO h2 x) := by
  obtain ⟨dst, op, type, pos, after, guard⟩ := o
  have hm : ∀ (x : Option Value), x.map (·, h) = some (v, h') → h' = h ∧ ∀ h2 : AH, x.map (·, h2) = some (v, h2) := fun x hq => by
    obtain ⟨y, hy, hq⟩ := Option.map_eq_some_iff.1 hq
    cases hq
    exact ⟨rfl, fun h2 => by rw [hy]; rfl⟩
  have pure0 : ∀ (f : AH → Option Value), (∀ a b, f a = f b) → (f h).map (·, h) = some (v, h') → ∃ x : Option AObj, h' = allocO h x ∧ (x = none) ∧ ∀ h2 : AH, h2.next = h.next → (f h2).map (·, h2) = some (v, allocO h2 x) := fun f hf hq => by
    obtain ⟨rfl, hh⟩ := hm _ hq
    exact ⟨none, rfl, rfl, fun h2 _ => by rw [hf h2 h']; exact hh h2⟩
  cases op
  all_goals try (exfalso; simp [opKind] at hk; done)
  all_goals simp only [opKind] at hk ⊢
  all_goals simp only [aOp] at hs ⊢
  all_goals first
    | (obtain ⟨rfl, hh⟩ := hm _ hs; exact ⟨none, rfl, fun _ => rfl, fun h2 _ => hh h2⟩)
    | (simp only [Option.some.injEq, Prod.mk.injEq] at hs
       obtain ⟨rfl, rfl⟩ := hs
       exact ⟨none, rfl, fun _ => rfl, fun h2 _ => rfl⟩)
    | skip
  case pick c a b =>
    split at hs <;> first | (simp at hs; done) | skip
    simp only [Option.some.injEq, Prod.mk.injEq] at hs
    obtain ⟨rfl, rfl⟩ := hs
    exact ⟨none, rfl, fun _ => rfl, fun h2 _ => rfl⟩
  case alloc t =>
    split at hs <;> first | (simp at hs; done) | skip
    rename_i z hz
    simp only [aNew, Option.some.injEq, Prod.mk.injEq] at hs ⊢
    obtain ⟨rfl, rfl⟩ := hs
    exact ⟨some _, rfl, by simp [opKind], fun h2 h3 => ⟨by rw [h3], rfl⟩⟩
  case box t x =>
    split at hs <;> first | (simp at hs; done) | skip
    simp only [aNew, Option.some.injEq, Prod.mk.injEq] at hs ⊢
    obtain ⟨rfl, rfl⟩ := hs
    exact ⟨some _, rfl, by simp [opKind], fun h2 h3 => ⟨by rw [h3], rfl⟩⟩
  case buildSlice t n ps =>
    clear hm pure0
    unfold aBuildSlice at hs ⊢
    repeat' split at hs
    all_goals first | (simp at hs; done) | skip
    simp only [Option.some.injEq, Prod.mk.injEq] at hs
    obtain ⟨rfl, rfl⟩ := hs
    refine ⟨some _, rfl, by simp [opKind], fun h2 h3 => ?_⟩
    first | (simp [allocO, h3]; done) | (rw [if_pos (by assumption)]; simp [allocO, h3]; done) | (rw [if_neg (by assumption)]; simp [allocO, h3]; done) | (rw [if_neg (by assumption), if_pos (by assumption)]; simp [allocO, h3]; done)
  case nilCheck x =>
    split at hs <;> first | (simp at hs; done) | skip
    all_goals
      simp only [Option.some.injEq, Prod.mk.injEq] at hs
      obtain ⟨rfl, rfl⟩ := hs
      exact ⟨none, rfl, fun _ => rfl, fun h2 _ => rfl⟩
  case convert s d x =>
    clear hm pure0
    unfold aConvert at hs ⊢
    split at hs
    all_goals first | (simp at hs; done) | skip
    all_goals first
      | (simp only [Option.some.injEq, Prod.mk.injEq] at hs
         obtain ⟨rfl, rfl⟩ := hs
         exact ⟨none, rfl, fun _ => rfl, fun h2 _ => rfl⟩)
      | skip
    all_goals repeat' split at hs
    all_goals first | (simp at hs; done) | skip
    all_goals first
      | (simp only [Option.some.injEq, Prod.mk.injEq] at hs
         obtain ⟨rfl, rfl⟩ := hs
         refine ⟨some _, rfl, by simp [*], fun h2 h3 => ?_⟩
         first | (simp [allocO, h3]; done) | (rw [if_pos (by assumption)]; simp [allocO, h3]; done) | (simp [allocO, h3, *]; done))
      | (exfalso; simp_all; done)
  case makeFunc fn a b =>
    split at hs <;> first | (simp at hs; done) | skip
    simp only [Option.some.injEq, Prod.mk.injEq] at hs
    obtain ⟨rfl, rfl⟩ := hs
    exact ⟨none, rfl, fun _ => rfl, fun h2 _ => rfl⟩
  case makeMap t r =>
    split at hs <;> first | (simp at hs; done) | skip
    simp only [Option.some.injEq, Prod.mk.injEq] at hs
    obtain ⟨rfl, rfl⟩ := hs
    exact ⟨some _, rfl, by simp [opKind], fun h2 h3 => by simp [h3, allocO]⟩
  case makeSlice t l c =>
    clear hm pure0
    unfold aMakeSlice at hs ⊢
    repeat' split at hs
    all_goals first | (simp at hs; done) | skip
    simp only [Option.some.injEq, Prod.mk.injEq] at hs
    obtain ⟨rfl, rfl⟩ := hs
    refine ⟨some _, rfl, by simp [opKind], fun h2 h3 => ?_⟩
    first | (simp [allocO, h3]; done) | (rw [if_pos (by assumption)]; simp [allocO, h3]; done) | (simp [allocO, h3, *]; done)
  case extract t i =>
    split at hs <;> first | (simp at hs; done) | skip
    obtain ⟨rfl, hh⟩ := hm _ hs
    exact ⟨none, rfl, fun _ => rfl, fun h2 _ => hh h2⟩
  case call c =>
    obtain ⟨callee, args, ats⟩ := c
    cases callee
    case builtin b => cases b <;> simp at hk
    all_goals simp at hk
theorem runOp_aOp {r : Ex} {o : Oper} (e : Env) (hk : opKind P o.op ≠ 3) : runOp P K r o e h = aOp P o e h := by
  obtain ⟨dst, op, type, pos, after, guard⟩ := o
  cases op
  case call c =>
    obtain ⟨callee, args, ats⟩ := c
    cases callee
    case value f => simp [opKind] at hk
    all_goals rfl
  all_goals rfl

/-! ## Before -/
theorem inner_bits (acc : Array Nat) (i : Nat) : ∀ (l : List Edge) (s : Nat), (l.foldl (fun s e => if Region.binds .any e then s ||| 2 ^ e.on ||| acc.getD e.on 0 else s) s).testBit i = true →
    s.testBit i = true ∨ ∃ e ∈ l, Region.binds .any e = true ∧ (e.on = i ∨ (acc.getD e.on 0).testBit i = true)
  | [], s, hs => .inl hs
  | e :: l, s, hs => by
    simp only [List.foldl_cons] at hs
    rcases inner_bits acc i l _ hs with hs | ⟨e', he', hb, hq⟩
    · by_cases hb : Region.binds .any e = true
      · rw [if_pos hb, Nat.testBit_or, Nat.testBit_or, Bool.or_eq_true, Bool.or_eq_true] at hs
        rcases hs with (hs | hs) | hs
        · exact .inl hs
        · rw [Nat.testBit_two_pow] at hs
          exact .inr ⟨e, by simp, hb, .inl (by simpa using hs)⟩
        · exact .inr ⟨e, by simp, hb, .inr hs⟩
      · rw [if_neg hb] at hs
        exact .inl hs
    · exact .inr ⟨e', by simp [he'], hb, hq⟩
theorem getD_push (a : Array Nat) (x j : Nat) : (a.push x).getD j 0 = if j = a.size then x else a.getD j 0 := by
  rw [Array.getD_eq_getD_getElem?, Array.getD_eq_getD_getElem?, Array.getElem?_push]
  split <;> rfl
def BitWhy (ops : List Oper) (acc : Array Nat) : Prop := ∀ j i, (acc.getD j 0).testBit i = true → ∃ o, ops[j]? = some o ∧ ∃ e ∈ o.after, Region.binds .any e = true ∧ (e.on = i ∨ (e.on < j ∧ (acc.getD e.on 0).testBit i = true))
theorem before_aux (all : List Oper) : ∀ (l : List Oper) (k : Nat) (acc : Array Nat), all.drop k = l → acc.size = k → BitWhy all acc →
    BitWhy all (l.foldl (fun acc o => acc.push (o.after.foldl (fun s e => if Region.binds .any e then s ||| 2 ^ e.on ||| acc.getD e.on 0 else s) 0)) acc)
  | [], _, _, _, _, hw => hw
  | o :: l, k, acc, hl, hk, hw => by
    simp only [List.foldl_cons]
    refine before_aux all l (k + 1) _ ?_ (by simp [hk]) ?_
    · have : (all.drop k).drop 1 = l := by rw [hl]; rfl
      simpa [List.drop_drop] using this
    · intro j i hb
      have hget : ∀ q, q < k → (acc.push (o.after.foldl (fun s e => if Region.binds .any e then s ||| 2 ^ e.on ||| acc.getD e.on 0 else s) 0)).getD q 0 = acc.getD q 0 := by
        intro q hq
        rw [getD_push, if_neg (by omega)]
      rcases Nat.lt_trichotomy j k with hj | hj | hj
      · rw [hget j hj] at hb
        obtain ⟨o', ho, e, he, h1, h2⟩ := hw j i hb
        refine ⟨o', ho, e, he, h1, h2.imp id fun ⟨h3, h4⟩ => ⟨h3, ?_⟩⟩
        rw [hget e.on (by omega)]
        exact h4
      · subst hj
        have h0 : all[j]? = some o := by
          have : (all.drop j)[0]? = some o := by rw [hl]; rfl
          simpa using this
        have hlast : (acc.push (o.after.foldl (fun s e => if Region.binds .any e then s ||| 2 ^ e.on ||| acc.getD e.on 0 else s) 0)).getD j 0 = (o.after.foldl (fun s e => if Region.binds .any e then s ||| 2 ^ e.on ||| acc.getD e.on 0 else s) 0) := by
          rw [getD_push, if_pos hk.symm]
        rw [hlast, ← Array.foldl_toList] at hb
        rcases inner_bits acc i o.after.toList 0 hb with hz | ⟨e, he, h1, h2⟩
        · simp at hz
        · refine ⟨o, h0, e, by simpa using he, h1, h2.imp id fun h3 => ?_⟩
          have hlt : e.on < j := by
            rcases Nat.lt_or_ge e.on j with q | q
            · exact q
            · rw [show acc.getD e.on 0 = 0 by simp [Array.getElem?_eq_none (show acc.size ≤ e.on by omega)]] at h3
              simp at h3
          exact ⟨hlt, by rw [hget e.on hlt]; exact h3⟩
      · have : (acc.push (o.after.foldl (fun s e => if Region.binds .any e then s ||| 2 ^ e.on ||| acc.getD e.on 0 else s) 0)).getD j 0 = 0 := by
          rw [getD_push, if_neg (by omega), Array.getD_eq_getD_getElem?, Array.getElem?_eq_none (by omega)]
          rfl
        rw [this] at hb
        simp at hb
theorem before_why (ops : Array Oper) : BitWhy ops.toList (Region.before ops) := by
  unfold Region.before
  rw [← Array.foldl_toList]
  exact before_aux ops.toList ops.toList 0 #[] rfl rfl (fun j i hb => by simp at hb)
/-- What has been done, with all that comes before. -/
def Closed (ops : Array Oper) (D : Nat → Prop) : Prop := ∀ j o, D j → ops[j]? = some o → ∀ e ∈ o.after, Region.binds .any e = true → D e.on
theorem Closed.bit {ops : Array Oper} {D : Nat → Prop} (c : Closed ops D) : ∀ (j i : Nat), D j → ((Region.before ops).getD j 0).testBit i = true → D i := by
  intro j
  induction j using Nat.strongRecOn with
  | ind j ih =>
    intro i hd hb
    obtain ⟨o, ho, e, he, h1, h2⟩ := before_why ops j i hb
    have := c j o hd (by simpa using ho) e he h1
    rcases h2 with rfl | ⟨h3, h4⟩
    · exact this
    · exact ih e.on h3 i this h4
end Go.Am
