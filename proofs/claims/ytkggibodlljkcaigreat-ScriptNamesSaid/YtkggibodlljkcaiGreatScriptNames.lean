/-
  The law aquiferlaw23.ScriptNames has no arguments; it returns true, at every tape and in every world, and every old block is as it was. Proved by the abstract machine's own run (kernel), of which the sum of bytes and the set of the sectors in a state are told by their contracts, and by its soundness. No condition.
-/
import Derived.Test.YtkggibodlljkcaiGreatRows
import Derived.WalkKit
import Derived.ProofKit
import Derived.OpenShut
import Derived.Test.YtkggibodlljkcaiGreatCMore
import Derived.Test.YtkggibodlljkcaiGreatCSpans
import Derived.Test.YtkggibodlljkcaiGreatCOf
import Derived.Test.YtkggibodlljkcaiGreatCIs
import Derived.Test.YtkggibodlljkcaiGreatCAll
import Derived.Test.YtkggibodlljkcaiGreatAm6e
namespace Go.Proofs.YtkggibodlljkcaiGreat.scriptNames
open Go.ChangeShapes Go.WideShapes Go.ChangeAt Go.RowKit Go.Am
set_option linter.unusedVariables false
set_option maxRecDepth 100000

theorem own : ownKnob Tryz.prog.godebug = none := by kernel_rfl
theorem good : Go.Am.Good Tryz.prog := Go.Am.Good.of (by kernel_rfl) (by kernel_rfl) (by kernel_rfl)
abbrev k1 : Xs := xAdd (xByte 262) 217 (.sum xMore)
abbrev k2 : Xs := xAdd k1 249 (.sum (xSpans 290))
abbrev k3 : Xs := xAdd k2 227 (.sum (xOf 290))
abbrev k4 : Xs := xAdd k3 174 (.sum xIs)
abbrev k5 : Xs := xAdd k4 213 (.sum (xAll 290))
abbrev k6 : Xs := xAdd k2 174 (.sum xIs)
abbrev kk : Xs := xAdd k6 213 (.sum (xAll 290))
noncomputable abbrev f1 : Fs := fAdd (fByte 262) 217 (.sum fMore)
noncomputable abbrev f2 : Fs := fAdd f1 249 (.sum (fSpans 290))
noncomputable abbrev f3 : Fs := fAdd f2 174 (.sum fIs)
noncomputable abbrev ff : Fs := fAdd f3 213 (.sum (fAll 290))
theorem told1 : GoodX Tryz.prog k1 := tells_good good (xByte_good ⟨Tryz.f262, Tryz.func262, rfl, by kernel_rfl, by kernel_rfl, by kernel_rfl⟩) ⟨_, _, Tryz.func217, rfl⟩ (cMore rfl)
theorem told2 : GoodX Tryz.prog k2 := tells_good good told1 ⟨_, _, Tryz.func249, rfl⟩ (cSpans rfl)
theorem told3 : GoodX Tryz.prog k3 := tells_good good told2 ⟨_, _, Tryz.func227, rfl⟩ (cOf rfl rfl)
theorem told4 : GoodX Tryz.prog k4 := tells_good good told3 ⟨_, _, Tryz.func174, rfl⟩ (cIs rfl)
theorem told5 : GoodX Tryz.prog k5 := tells_good good told4 ⟨_, _, Tryz.func213, rfl⟩ (cAll rfl rfl rfl)
theorem told6 : GoodX Tryz.prog k6 := tells_good good told2 ⟨_, _, Tryz.func174, rfl⟩ (cIs rfl)
theorem told : GoodX Tryz.prog kk := add_good told6 ⟨_, _, Tryz.func213, rfl⟩ (told5.sum 213 _ rfl)
theorem both1 : Both f1 k1 := both_add (both_byte 262) fun _ _ _ _ hq => fMore_ok hq
theorem both2 : Both f2 k2 := both_add both1 fun _ _ _ _ hq => fSpans_ok hq
theorem both3 : Both f3 k6 := both_add both2 fun _ _ _ _ hq => fIs_ok hq
theorem both : Both ff kk := both_add both3 fun _ _ _ _ hq => fAll_ok hq
theorem runsF : isTrueF (fcallF Tryz.prog ff (gex Tryz.prog ff 20000) 3 [] ⟨.nil, 0⟩) = true := by kernel_rfl
theorem runs : isTrue (callF Tryz.prog kk (ex Tryz.prog kk 20000) 3 [] ⟨.nil, 0⟩) = true := isTrueG_abs both runsF
theorem walk (w : World) : Calls Tryz.prog 3 #[] w fun e w' => e = .returned (.bool true) ∧ Kept w w' := closed_true good told runs w

theorem lifted (os : Os) (started : os.Started) (H : Type) (enc : TypeId × Value → H) :
    ReturnsInHanded {} Tryz.checked os 3 .any (Rows.scriptNamesSpec.pre6 enc Tryz.prog Tryz.f3 Rows.scriptNamesRow.domain false) (Rows.scriptNamesSpec.post enc Tryz.prog Tryz.f3 false true false false) := by
  refine returnsInHanded_of_change (C := Tryz.checked) own started (by kernel_rfl) Tryz.func3
    (ChangeSpec.witness6 (enc := enc) (C := Tryz.checked) false ⟨#[], #[], []⟩ 8 (by kernel_rfl) (by kernel_rfl) (by kernel_rfl) (by kernel_rfl)) ?_
  intro W base args ds gs before hval0 hW hcnd _
  have hval : ∀ (j : Nat) t v, Tryz.f3.params[j]? = some t → args[j]? = some v → Value.okWide Tryz.prog W .any base t v := hval0
  have hW' := hW
  obtain ⟨p, q, hA0, hV, rfl, hfz, hnd⟩ := hW
  have hA : DataW.TrodAll enc Tryz.prog W 0 (fun _ => true) true Tryz.f3.params.toList args.toList ds p := hA0
  rw [Tryz.params3] at hA hval
  obtain ⟨rfl, rfl, rfl⟩ := trodAll_none hA
  obtain ⟨rfl, rfl⟩ := trodVars_none hV
  clear hA0 hval0
  simp only [List.append_nil] at hW'
  refine (walk W).mono fun e W' ⟨he, hg⟩ => ?_
  subst he
  exact ⟨_, rfl, post_kept (pa := []) (pv := []) hW' (fun _ _ _ => (trodAll_cons_mk (shut_bool Tryz.underlying4 _) trodAll_mk0)) (fun sp _ => rfl) (fun _ _ => rfl) rfl
    hg (ok_one (by kernel_rfl) rfl (okWide_bool_mk Tryz.underlying4 _))⟩

theorem over : Rows.scriptNamesRow.holds Tryz.pinned (OpenSpec.ofChange Rows.scriptNamesSpec) :=
  OpenClaim.holds_of_wide 3 Tryz.f3 rfl rfl rfl rfl rfl rfl rfl ⟨rfl, rfl, rfl, rfl, rfl⟩ rfl rfl rfl rfl rfl (by kernel_rfl) Tryz.func3 (by kernel_rfl)
    (of_decide_eq_true (by kernel_rfl)) (by unfold Func.isWrapper; first | (rw [if_pos (by decide +kernel)]; kernel_rfl) | (rw [if_neg (by decide +kernel)]; exact ⟨rfl, rfl⟩))
    (fun os started H enc _ => lifted os started H enc)

theorem proved : Rows.ScriptNamesSaid := over
#print axioms proved
end Go.Proofs.YtkggibodlljkcaiGreat.scriptNames
