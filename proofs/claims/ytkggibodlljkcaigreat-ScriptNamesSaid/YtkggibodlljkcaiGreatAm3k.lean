/-
  THE ABSTRACT MACHINE IS SOUND: what it computes, every call of the model comes to.
-/
import Derived.Test.YtkggibodlljkcaiGreatAm3e
import Derived.Test.YtkggibodlljkcaiGreatAm3j
set_option linter.unusedVariables false
set_option linter.unusedSimpArgs false
namespace Go.Am
variable {P : Program} {K : Xs} {φ φ' : Fi} {h h' : AH} {w w' : World}

theorem ex_sound {P : Program} {K : Xs} (G : Good P) (X : GoodX P K) : ∀ n, SEx P (ex P K n)
  | 0 => fun rd ks c e h x e' h' hs => by simp [ex] at hs
  | n + 1 => by
    have S := ex_sound (K := K) G X n
    have M := ex_next (P := P) (K := K) n
    exact exStep_sound G X S M (draw_sound (opIn_sound G X S M) M)

/-- The world is as it was, but for what is new. -/
def Kept (w w' : World) : Prop := w'.os = w.os ∧ w'.output = w.output ∧ w.heap.size ≤ w'.heap.size ∧ ∀ c, c < w.heap.size → w'.heap[c]? = w.heap[c]?
theorem Kept.but (k : Kept w w') (may : MemPlace → Prop) : w.keptBut w' may := by
  obtain ⟨h1, h2, h3, h4⟩ := k
  refine ⟨h1, h2, fun i hi => ?_⟩
  rw [h4 i hi]
  cases w.heap[i]? with
  | none => rfl
  | some o => cases o <;> first | rfl | exact ⟨rfl, rfl, rfl, fun _ _ => rfl⟩ | exact .inr ⟨rfl, rfl⟩
theorem Kept.frozen (k : Kept w w') (a : Addr) (ha : a.block < w.heap.size) : w'.frozen? a = w.frozen? a := by
  unfold World.frozen?
  rw [k.2.2.2 _ ha]

/-- All the blocks are only read: those of the arguments. -/
def AllRo (h : AH) : Prop := ∀ b o, h.get b = some o → o.ro = true
theorem calls_of (G : Good P) (X : GoodX P K) {n : Nat} {f : FuncId} {args : List Value} {v : Value} (hs : callF P K (ex P K n) f args h = some (v, h')) {args' : Array Value}
    (hr : R P φ h w) (hf : ∀ b, h.next ≤ b → φ b = none) (hro : AllRo h) (ha : AR φ args args'.toList) :
    Calls P f args' w fun e w' => ∃ φ' v', e = .returned v' ∧ VR φ' v v' ∧ R P φ' h' w' ∧ Le φ φ' ∧ Kept w w' := by
  intro cs
  obtain ⟨φ', v', w', fr, t, hv, st, hfn, hlv⟩ := call_sound (K := K) G X (ex_sound G X n) f args h v h' hs h'.next φ args'.toList w cs (Nat.le_refl _) (fun b h1 _ => hf b h1) ha hr
  refine ⟨.returned v', w', fr, ⟨φ', v', rfl, hv, t.rel, t.le, t.os, t.output, t.size, fun c hc => t.keep c hc ?_⟩, ?_, hfn, hlv⟩
  · rintro ⟨b, o, rc, h1, _, _, h4⟩
    rw [hro b o h1] at h4
    simp at h4
  · exact (show Steps P _ _ by simpa using st)
theorem VR.bool_eq {v' : Value} {b : Bool} (h : VR φ (.bool b) v') : v' = .bool b := by cases h; rfl
/-- A law: it returns true, and the world is as it was. -/
theorem calls_true (G : Good P) (X : GoodX P K) {n : Nat} {f : FuncId} {args : List Value} (hs : callF P K (ex P K n) f args h = some (.bool true, h')) {args' : Array Value}
    (hr : R P φ h w) (hf : ∀ b, h.next ≤ b → φ b = none) (hro : AllRo h) (ha : AR φ args args'.toList) :
    Calls P f args' w fun e w' => e = .returned (.bool true) ∧ Kept w w' :=
  (calls_of G X hs hr hf hro ha).mono fun e w' ⟨φ', v', he, hv, _, _, hk⟩ => ⟨by rw [he, hv.bool_eq], hk⟩

/-! ## Contracts in the abstract machine: for some fuel -/
def Call (P : Program) (K : Xs) (f : FuncId) (args : List Value) (h : AH) (Q : Value → AH → Prop) : Prop := ∃ n v h', callF P K (ex P K n) f args h = some (v, h') ∧ Q v h'
def W (P : Program) (K : Xs) (rd : Option Nat) (ks : List Tmp) (c : Code) (e : Env) (h : AH) (Q : AX → Env → AH → Prop) : Prop := ∃ n x e' h', ex P K n rd ks c e h = some (x, e', h') ∧ Q x e' h'
theorem Call.mono {f : FuncId} {args : List Value} {Q Q' : Value → AH → Prop} (c : Call P K f args h Q) (hq : ∀ v h', Q v h' → Q' v h') : Call P K f args h Q' := by
  obtain ⟨n, v, h', h1, h2⟩ := c
  exact ⟨n, v, h', h1, hq v h' h2⟩
theorem W.mono {rd : Option Nat} {ks : List Tmp} {c : Code} {e : Env} {Q Q' : AX → Env → AH → Prop} (w : W P K rd ks c e h Q) (hq : ∀ x e' h', Q x e' h' → Q' x e' h') : W P K rd ks c e h Q' := by
  obtain ⟨n, x, e', h', h1, h2⟩ := w
  exact ⟨n, x, e', h', h1, hq x e' h' h2⟩
theorem law_of (G : Good P) (X : GoodX P K) {f : FuncId} {args : List Value} (c : Call P K f args h (fun v _ => v = .bool true)) {args' : Array Value}
    (hr : R P φ h w) (hf : ∀ b, h.next ≤ b → φ b = none) (hro : AllRo h) (ha : AR φ args args'.toList) :
    Calls P f args' w fun e w' => e = .returned (.bool true) ∧ Kept w w' := by
  obtain ⟨n, v, h', h1, rfl⟩ := c
  exact calls_true G X h1 hr hf hro ha
end Go.Am
