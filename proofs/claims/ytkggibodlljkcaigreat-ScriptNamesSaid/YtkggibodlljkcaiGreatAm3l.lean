/-
  FUNCTIONS THAT ARE TOLD: the search of a byte in a string; closed functions; functions whose answer is shown.
-/
import Derived.Test.YtkggibodlljkcaiGreatAm3k
set_option linter.unusedVariables false
set_option linter.unusedSimpArgs false
namespace Go.Am
variable {P : Program} {K : Xs} {φ φ' : Fi} {h h' : AH} {w w' : World}

def findB (s : ByteArray) (c : Int) : Int := match (List.range s.size).find? fun i => s[i]! == c.toNat.toUInt8 with | some i => (i : Int) | none => -1
def xIndexByte : List Value → AH → Option (Value × AH)
  | [.string s, .int .u8 c], h => some (.int .i64 (findB s c), h)
  | _, _ => none
/-- It is the search of a byte. -/
def IsIndexByte (P : Program) (f : FuncId) : Prop := ∃ fn, P.funcs[f]? = some fn ∧ fn.body = none ∧ (fn.name == "runtime.NumGoroutine") = false ∧ Extern.findNext fn = none ∧ Extern.find fn = some Extern.BytealgIndexByte.indexByte
theorem indexByte_ext {f : FuncId} (hx : IsIndexByte P f) : ∀ φ args args' h w v h', xIndexByte args h = some (v, h') → h.next ≤ h'.next → Free φ h.next h'.next → AR φ args args' → R P φ h w →
    ∃ φ' v' w', (callFunc f args'.toArray).run P w = .ok (.value v') w' ∧ VR φ' v v' ∧ Tn P φ h w φ' h' w' := by
  intro φ args args' h w v h' hs _ _ ha hr
  unfold xIndexByte at hs
  split at hs
  · rename_i h0 s c
    simp only [Option.some.injEq, Prod.mk.injEq] at hs
    obtain ⟨rfl, rfl⟩ := hs
    obtain ⟨x1, x2, rfl, h1, h2⟩ := arr2 ha
    cases h1
    cases h2
    obtain ⟨fn, g1, g2, g3, g4, g5⟩ := hx
    refine ⟨φ, .int .i64 (findB s c), w, ?_, .int _ _, Tn.refl hr⟩
    have hrun : (Extern.BytealgIndexByte.indexByte [Value.string s, Value.int IntKind.u8 c].toArray).run P w = .ok (.int .i64 (findB s c)) w := by
      show Sem.run P (match (List.range s.size).find? fun i => s[i]! == c.toNat.toUInt8 with | some i => pure (goInt i) | none => pure (goInt (-1))) w = _
      unfold findB
      split <;> rfl
    generalize Extern.BytealgIndexByte.indexByte = ee at g5 hrun
    simp only [callFunc, Sem.run_bind, run_program, Result.andThen_ok, g1, g3, g2, Option.isNone_none, g4, g5]
    simp [mark, Sem.run, hrun]
  · simp at hs
end Go.Am
