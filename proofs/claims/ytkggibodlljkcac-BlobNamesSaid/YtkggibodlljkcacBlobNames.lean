/-
  The law aquiferlaw12.BlobNames has no arguments; it returns true, at every tape and in every world, and every old block is as it was. Proved by the abstract machine's own run (kernel), of which the sum of bytes and the set of the sectors in a state are told by their contracts, and by its soundness. No condition.
-/
import Derived.Test.YtkggibodlljkcacRows
import Derived.WalkKit
import Derived.ProofKit
import Derived.OpenShut
import Derived.Test.YtkggibodlljkcacCMore
import Derived.Test.YtkggibodlljkcacCSpans
import Derived.Test.YtkggibodlljkcacCOf
import Derived.Test.YtkggibodlljkcacCIs
import Derived.Test.YtkggibodlljkcacCAll
import Derived.Test.YtkggibodlljkcacAm6d
namespace Go.Proofs.Ytkggibodlljkcac.blobNames
open Go.ChangeShapes Go.WideShapes Go.ChangeAt Go.RowKit Go.Am
set_option linter.unusedVariables false
set_option maxRecDepth 100000

theorem own : ownKnob Try.prog.godebug = none := by kernel_rfl
theorem good : Go.Am.Good Try.prog := Go.Am.Good.of (by kernel_rfl) (by kernel_rfl) (by kernel_rfl)
abbrev k1 : Xs := xAdd xNone 51 (.sum xMore)
abbrev k2 : Xs := xAdd k1 55 (.sum (xSpans 105))
abbrev k3 : Xs := xAdd k2 47 (.sum (xOf 105))
abbrev k4 : Xs := xAdd k3 33 (.sum xIs)
abbrev k5 : Xs := xAdd k4 37 (.sum (xAll 105))
abbrev kk : Xs := xAdd k1 37 (.sum (xAll 105))
noncomputable abbrev ff : Fs := fAdd (fAdd fNone 51 (.sum fMore)) 37 (.sum (fAll 105))
theorem told1 : GoodX Try.prog k1 := tells_good good xNone_good ⟨_, _, Try.func51, rfl⟩ (cMore rfl)
theorem told2 : GoodX Try.prog k2 := tells_good good told1 ⟨_, _, Try.func55, rfl⟩ (cSpans rfl)
theorem told3 : GoodX Try.prog k3 := tells_good good told2 ⟨_, _, Try.func47, rfl⟩ (cOf rfl rfl)
theorem told4 : GoodX Try.prog k4 := tells_good good told3 ⟨_, _, Try.func33, rfl⟩ (cIs rfl)
theorem told5 : GoodX Try.prog k5 := tells_good good told4 ⟨_, _, Try.func37, rfl⟩ (cAll rfl rfl rfl)
theorem told : GoodX Try.prog kk := add_good told1 ⟨_, _, Try.func37, rfl⟩ (told5.sum 37 _ rfl)
theorem both1 : Both (fAdd fNone 51 (.sum fMore)) k1 := both_add both_none fun _ _ _ _ hq => fMore_ok hq
theorem both : Both ff kk := both_add both1 fun _ _ _ _ hq => fAll_ok hq
theorem runsF : isTrueF (fcallF Try.prog ff (gex Try.prog ff 20000) 3 [] ⟨.nil, 0⟩) = true := by kernel_rfl
theorem runs : isTrue (callF Try.prog kk (ex Try.prog kk 20000) 3 [] ⟨.nil, 0⟩) = true := isTrueG_abs both runsF
theorem walk (w : World) : Calls Try.prog 3 #[] w fun e w' => e = .returned (.bool true) ∧ Kept w w' := closed_true good told runs w

theorem lifted (os : Os) (started : os.Started) (H : Type) (enc : TypeId × Value → H) :
    ReturnsInHanded {} Try.checked os 3 .any (Rows.blobNamesSpec.pre6 enc Try.prog Try.f3 Rows.blobNamesRow.domain false) (Rows.blobNamesSpec.post enc Try.prog Try.f3 false true false false) := by
  refine returnsInHanded_of_change (C := Try.checked) own started (by kernel_rfl) Try.func3
    (ChangeSpec.witness6 (enc := enc) (C := Try.checked) false ⟨#[], #[], []⟩ 8 (by kernel_rfl) (by kernel_rfl) (by kernel_rfl) (by kernel_rfl)) ?_
  intro W base args ds gs before hval0 hW hcnd _
  have hval : ∀ (j : Nat) t v, Try.f3.params[j]? = some t → args[j]? = some v → Value.okWide Try.prog W .any base t v := hval0
  have hW' := hW
  obtain ⟨p, q, hA0, hV, rfl, hfz, hnd⟩ := hW
  have hA : DataW.TrodAll enc Try.prog W 0 (fun _ => true) true Try.f3.params.toList args.toList ds p := hA0
  rw [Try.params3] at hA hval
  obtain ⟨rfl, rfl, rfl⟩ := trodAll_none hA
  obtain ⟨rfl, rfl⟩ := trodVars_none hV
  clear hA0 hval0
  simp only [List.append_nil] at hW'
  refine (walk W).mono fun e W' ⟨he, hg⟩ => ?_
  subst he
  exact ⟨_, rfl, post_kept (pa := []) (pv := []) hW' (fun _ _ _ => (trodAll_cons_mk (shut_bool Try.underlying4 _) trodAll_mk0)) (fun sp _ => rfl) (fun _ _ => rfl) rfl
    hg (ok_one (by kernel_rfl) rfl (okWide_bool_mk Try.underlying4 _))⟩

theorem over : Rows.blobNamesRow.holds Try.pinned (OpenSpec.ofChange Rows.blobNamesSpec) :=
  OpenClaim.holds_of_wide 3 Try.f3 rfl rfl rfl rfl rfl rfl rfl ⟨rfl, rfl, rfl, rfl, rfl⟩ rfl rfl rfl rfl rfl (by kernel_rfl) Try.func3 (by kernel_rfl)
    (of_decide_eq_true (by kernel_rfl)) (by unfold Func.isWrapper; first | (rw [if_pos (by decide +kernel)]; kernel_rfl) | (rw [if_neg (by decide +kernel)]; exact ⟨rfl, rfl⟩))
    (fun os started H enc _ => lifted os started H enc)

theorem proved : Rows.BlobNamesSaid := over
#print axioms proved
end Go.Proofs.Ytkggibodlljkcac.blobNames
