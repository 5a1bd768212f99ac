/-
  The law aquiferlaw12.BlobGrows: for all its arguments (numbers) it returns true, at every tape and in every world, and every old block is as it was. The chapter's example is run by the abstract machine (kernel), of which some functions are told by contracts; the law's own text by the weakest conditions of its functions. No condition.
-/
import Derived.Test.YtfomjjgojpmgcabRows
import Derived.WalkKit
import Derived.ProofKit
import Derived.OpenShut
import Derived.Test.YtfomjjgojpmgcabCMore
import Derived.Test.YtfomjjgojpmgcabCSpans
import Derived.Test.YtfomjjgojpmgcabCOf
import Derived.Test.YtfomjjgojpmgcabCIs
import Derived.Test.YtfomjjgojpmgcabCAll
import Derived.Test.YtfomjjgojpmgcabAmF
import Derived.Test.YtfomjjgojpmgcabCNeed
namespace Go.Proofs.Ytfomjjgojpmgcab.blobGrows
open Go.ChangeShapes Go.WideShapes Go.ChangeAt Go.RowKit Go.Am
set_option linter.unusedVariables false
set_option maxRecDepth 100000

theorem own : ownKnob Try.prog.godebug = none := by kernel_rfl
theorem good : Go.Am.Good Try.prog := Go.Am.Good.of (by kernel_rfl) (by kernel_rfl) (by kernel_rfl)
abbrev k1 : Xs := xAdd xNone 41 (.sum xMore)
abbrev k2 : Xs := xAdd k1 62 (.sum (xSpans 115))
abbrev k3 : Xs := xAdd k2 58 (.sum (xOf 115))
abbrev k4 : Xs := xAdd k3 35 (.sum xIs)
abbrev k5 : Xs := xAdd k4 50 (.sum (xAll 115))
abbrev k6 : Xs := xAdd k2 35 (.sum xIs)
abbrev kk : Xs := xAdd k6 50 (.sum (xAll 115))
noncomputable abbrev f1 : Fs := fAdd fNone 41 (.sum fMore)
noncomputable abbrev f2 : Fs := fAdd f1 62 (.sum (fSpans 115))
noncomputable abbrev f3 : Fs := fAdd f2 35 (.sum fIs)
noncomputable abbrev ff : Fs := fAdd f3 50 (.sum (fAll 115))
theorem told1 : GoodX Try.prog k1 := tells_good good xNone_good ⟨_, _, Try.func41, rfl⟩ (cMore rfl)
theorem told2 : GoodX Try.prog k2 := tells_good good told1 ⟨_, _, Try.func62, rfl⟩ (cSpans rfl)
theorem told3 : GoodX Try.prog k3 := tells_good good told2 ⟨_, _, Try.func58, rfl⟩ (cOf rfl rfl)
theorem told4 : GoodX Try.prog k4 := tells_good good told3 ⟨_, _, Try.func35, rfl⟩ (cIs rfl)
theorem told5 : GoodX Try.prog k5 := tells_good good told4 ⟨_, _, Try.func50, rfl⟩ (cAll rfl rfl rfl)
theorem told6 : GoodX Try.prog k6 := tells_good good told2 ⟨_, _, Try.func35, rfl⟩ (cIs rfl)
theorem told : GoodX Try.prog kk := add_good told6 ⟨_, _, Try.func50, rfl⟩ (told5.sum 50 _ rfl)
theorem both1 : Both f1 k1 := both_add both_none fun _ _ _ _ hq => fMore_ok hq
theorem both2 : Both f2 k2 := both_add both1 fun _ _ _ _ hq => fSpans_ok hq
theorem both3 : Both f3 k6 := both_add both2 fun _ _ _ _ hq => fIs_ok hq
theorem both : Both ff kk := both_add both3 fun _ _ _ _ hq => fAll_ok hq
theorem runsF : isTrueF (fcallF Try.prog ff (gex Try.prog ff 20000) 7 [] ⟨.nil, 0⟩) = true := by kernel_rfl
theorem runs : isTrue (callF Try.prog kk (ex Try.prog kk 20000) 7 [] ⟨.nil, 0⟩) = true := isTrueG_abs both runsF
abbrev kl : Xs := xAdd kk 7 (.sum xTrue)
theorem toldL : GoodX Try.prog kl := closed_good good told runs
theorem walk (a0 : Int) (w0 : (Lit.int .i64 a0).wf = true) (w : World) : Calls Try.prog 5 #[.int .i64 a0] w fun e w' => e = .returned (.bool true) ∧ Kept w w' :=
  law_true good toldL (f := 5) (args := [.int .i64 a0]) (φ := fun _ => none) rfl (growsTrue rfl rfl rfl rfl rfl a0 _) (R.empty 0) (fun _ _ => rfl) (fun b o hb => by simp [AH.get, Tr.get_nil] at hb) ⟨.int _ _, trivial⟩

theorem lifted (os : Os) (started : os.Started) (H : Type) (enc : TypeId × Value → H) :
    ReturnsInHanded {} Try.checked os 5 .any (Rows.blobGrowsSpec.pre6 enc Try.prog Try.f5 Rows.blobGrowsRow.domain false) (Rows.blobGrowsSpec.post enc Try.prog Try.f5 false true false false) := by
  refine returnsInHanded_of_change (C := Try.checked) own started (by kernel_rfl) Try.func5
    (ChangeSpec.witness6 (enc := enc) (C := Try.checked) false ⟨#[], #[.int .i64 0], []⟩ 8 (by kernel_rfl) (by kernel_rfl) (by kernel_rfl) (by kernel_rfl)) ?_
  intro W base args ds gs before hval0 hW hcnd _
  have hval : ∀ (j : Nat) t v, Try.f5.params[j]? = some t → args[j]? = some v → Value.okWide Try.prog W .any base t v := hval0
  have hW' := hW
  obtain ⟨p, q, hA0, hV, rfl, hfz, hnd⟩ := hW
  have hA : DataW.TrodAll enc Try.prog W 0 (fun _ => true) true Try.f5.params.toList args.toList ds p := hA0
  rw [Try.params5] at hA hval
  obtain ⟨v0, vs0, d0, ds0, p0, q0, hargs, rfl, rfl, h0, r0⟩ := trodAll_cons hA
  obtain ⟨rfl, rfl, rfl⟩ := trodAll_nil r0
  obtain rfl : args = #[v0] := by cases args; simp_all
  obtain ⟨a0, rfl, rfl, rfl, w0⟩ := open_int Try.underlying3 (hval 0 3 v0 rfl rfl) h0
  obtain ⟨rfl, rfl⟩ := trodVars_none hV
  clear hA0 hval0
  simp only [List.append_nil] at hW'
  refine (walk a0 w0 W).mono fun e W' ⟨he, hg⟩ => ?_
  subst he
  exact ⟨_, rfl, post_kept (pa := []) (pv := []) hW' (fun _ _ _ => (trodAll_cons_mk (shut_bool Try.underlying4 _) trodAll_mk0)) (fun sp _ => (trodAll_cons_mk (shut_int Try.underlying3 w0) trodAll_mk0)) (fun _ _ => rfl) rfl
    hg (ok_one (by kernel_rfl) rfl (okWide_bool_mk Try.underlying4 _))⟩

theorem over : Rows.blobGrowsRow.holds Try.pinned (OpenSpec.ofChange Rows.blobGrowsSpec) :=
  OpenClaim.holds_of_wide 5 Try.f5 rfl rfl rfl rfl rfl rfl rfl ⟨rfl, rfl, rfl, rfl, rfl⟩ rfl rfl rfl rfl rfl (by kernel_rfl) Try.func5 (by kernel_rfl)
    (of_decide_eq_true (by kernel_rfl)) (by unfold Func.isWrapper; first | (rw [if_pos (by decide +kernel)]; kernel_rfl) | (rw [if_neg (by decide +kernel)]; exact ⟨rfl, rfl⟩))
    (fun os started H enc _ => lifted os started H enc)

theorem proved : Rows.BlobGrowsSaid := over
#print axioms proved
end Go.Proofs.Ytfomjjgojpmgcab.blobGrows
