/-
  FROM THE ABSTRACT MACHINE TO A STATEMENT: what is asked of a program, as tests; what stands behind a law that only reads.
-/
import Derived.Test.YtkggibodlljkcaiGreatAm3l
import Derived.ChangeSame
set_option linter.unusedVariables false
set_option linter.unusedSimpArgs false
namespace Go.Am
variable {P : Program} {K : Xs}

theorem Good.of (hz : P.types.all (fun i => match i.zero with | some z => zeroOk z | none => true) = true)
    (hf : P.funcs.all (fun fn => (match fn.body with | some c => codeDst fn.ntmps c | none => true) && !(fn.name == "runtime.NumGoroutine")) = true) (hd : Nat.ble 50 P.depth = true) : Good P where
  zero := fun t i z ht hi hz' => by
    unfold Tables.info? at hi
    rw [if_pos ht] at hi
    have := Array.all_eq_true_iff_forall_mem.1 hz i (Array.mem_of_getElem? hi)
    rw [hz'] at this
    exact this
  dst := fun f fn c h1 h2 => by
    have := Array.all_eq_true_iff_forall_mem.1 hf fn (Array.mem_of_getElem? h1)
    rw [h2] at this
    simp only [Bool.and_eq_true] at this
    exact this.1
  name := fun f fn h1 => by
    have := Array.all_eq_true_iff_forall_mem.1 hf fn (Array.mem_of_getElem? h1)
    simp only [Bool.and_eq_true] at this
    simpa using this.2
  depth := Nat.le_of_ble_eq_true hd
/-- One function is told: the search of a byte. -/
def xByte (n : Nat) : Xs := fun f => cond (Nat.beq f n) (some (.ext xIndexByte)) none
theorem xByte_good {n : Nat} (hx : IsIndexByte P n) : GoodX P (xByte n) where
  ext := fun f g hk => by
    unfold xByte at hk
    cases hb : Nat.beq f n with
    | true =>
      rw [hb] at hk
      simp only [cond_true, Option.some.injEq, XF.ext.injEq] at hk
      subst hk
      have : f = n := Nat.eq_of_beq_eq_true hb
      subst this
      exact indexByte_ext hx
    | false => rw [hb] at hk; simp at hk
  body := fun f g hk => by
    unfold xByte at hk
    cases hb : Nat.beq f n <;> rw [hb] at hk <;> simp at hk
  sum := fun f g hk => by
    unfold xByte at hk
    cases hb : Nat.beq f n <;> rw [hb] at hk <;> simp at hk
def isTrue : Option (Value × AH) → Bool
  | some (.bool true, _) => true
  | _ => false
theorem isTrue_of {y : Option (Value × AH)} (h : isTrue y = true) : ∃ h', y = some (.bool true, h') := by
  unfold isTrue at h
  split at h
  · exact ⟨_, rfl⟩
  · simp at h
/-- A law without arguments: it runs to true. -/
theorem closed_true (G : Good P) (X : GoodX P K) {n : Nat} {f : FuncId} (hs : isTrue (callF P K (ex P K n) f [] ⟨.nil, 0⟩) = true) (w : World) :
    Calls P f #[] w fun e w' => e = .returned (.bool true) ∧ Kept w w' := by
  obtain ⟨h', h1⟩ := isTrue_of hs
  exact calls_true (φ := fun _ => none) (args' := #[]) G X h1 (R.empty 0) (fun _ _ => rfl) (fun b o hb => by simp [AH.get, Tr.get_nil] at hb) trivial

section
open Go.ChangeShapes Go.WideShapes
/-- The conclusion, where nothing that was is another. -/
theorem post_kept {H : Type} {enc : TypeId × Value → H} {f : Func} {s : ChangeSpec} {apart fresh handsOn again : Bool} {W W' : World} {args : Array Value} {v : Value} {ds gs : List (DataW H)} {before pa pv : List MemPlace}
    (hW : DataW.Whole enc P f.params.toList s.vars apart W args.toList ds gs before)
    (hres : ∀ (b : Nat) (sp : Nat → Bool) (hd : Bool), DataW.TrodAll enc P W' b sp hd f.resultTypes.toList (v.resultList f.resultTypes.size) (s.fn H (ds ++ gs)).results [])
    (hargs : ∀ sp : Nat → Bool, (∀ p ∈ before, sp p.block = true) → DataW.TrodAll enc P W' 0 sp true f.params.toList args.toList (s.fn H (ds ++ gs)).args pa)
    (hvars : ∀ sp : Nat → Bool, (∀ p ∈ before, sp p.block = true) → DataW.TrodVars enc P W' sp s.vars (s.fn H (ds ++ gs)).vars pv)
    (hps : before = pa ++ pv) (hk : Kept W W')
    (hok : ∀ (j : Nat) (t : TypeId) (r : Value), f.resultTypes[j]? = some t → (v.resultList f.resultTypes.size)[j]? = some r → Value.okWide P W' .any 0 t r) :
    s.post enc P f apart fresh handsOn again W args v W' := by
  have hlt := hW.lt
  have hold : ∀ p ∈ before, (fun b => decide (b < W.heap.size)) p.block = true := fun p hp => by simpa using hlt p hp
  refine ⟨ds, gs, before, [], pa, pv, hW, hres _ _ _, hargs _ hold, hvars _ hold, World.keptBut_mono (fun p hp => ⟨hp, ?_⟩) (hk.but (· ∈ before)), fun _ => ?_⟩
  · rw [hps, List.mem_append] at hp
    exact Or.inr hp
  · obtain ⟨_, _, _, _, _, hz, hn⟩ := hW
    refine ⟨hok, _, _, ([] ++ pa) ++ pv, ⟨[] ++ pa, pv, trodAll_append (hargs _ (fun _ _ => rfl)) (hres _ _ _), hvars _ (fun _ _ => rfl), rfl, ?_, ?_⟩, ?_⟩
    · intro b off hp
      have hp' : MemPlace.cell b off ∈ before := by rw [hps]; simpa using hp
      rw [hk.frozen _ (hlt _ hp')]
      exact hz b off hp'
    · intro ha
      have := hn ha
      rw [hps] at this
      simpa using this
    · intro p hp _
      rw [hps]
      simpa using hp
end
end Go.Am
