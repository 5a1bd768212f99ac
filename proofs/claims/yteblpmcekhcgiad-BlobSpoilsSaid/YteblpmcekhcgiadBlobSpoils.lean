/-
  The law aquiferlaw12.BlobSpoils: whatever its arguments are, it returns true, at every tape and in every world, and every old block is as it was. The chapter's example is run by the abstract machine (kernel), of which some functions are told by contracts; the law's own text by the weakest conditions of its functions; the arguments are read as trees. No condition.
-/
import Derived.Test.YteblpmcekhcgiadRows
import Derived.WalkKit
import Derived.ProofKit
import Derived.OpenShut
import Derived.SizedLaws
import Derived.Test.YteblpmcekhcgiadCMore
import Derived.Test.YteblpmcekhcgiadCSpans
import Derived.Test.YteblpmcekhcgiadCOf
import Derived.Test.YteblpmcekhcgiadCIs
import Derived.Test.YteblpmcekhcgiadCAll
import Derived.Test.YteblpmcekhcgiadAmF
import Derived.Test.YteblpmcekhcgiadAmH
import Derived.Test.YteblpmcekhcgiadCSpoils
namespace Go.Proofs.Yteblpmcekhcgiad.blobSpoils
open Go.ChangeShapes Go.WideShapes Go.ChangeAt Go.RowKit Go.Am
set_option linter.unusedVariables false
set_option maxRecDepth 100000

theorem own : ownKnob Try.prog.godebug = none := by kernel_rfl
theorem good : Go.Am.Good Try.prog := Go.Am.Good.of (by kernel_rfl) (by kernel_rfl) (by kernel_rfl)
abbrev k1 : Xs := xAdd xNone 38 (.sum xMore)
noncomputable abbrev f1 : Fs := fAdd fNone 38 (.sum fMore)
theorem told1 : GoodX Try.prog k1 := tells_good good xNone_good ⟨_, _, Try.func38, rfl⟩ (cMore rfl)
abbrev k2 : Xs := xAdd k1 59 (.sum (xSpans 115))
abbrev k3 : Xs := xAdd k2 55 (.sum (xOf 115))
abbrev k4 : Xs := xAdd k3 32 (.sum xIs)
abbrev k5 : Xs := xAdd k4 47 (.sum (xAll 115))
theorem told2 : GoodX Try.prog k2 := tells_good good told1 ⟨_, _, Try.func59, rfl⟩ (cSpans rfl)
theorem told3 : GoodX Try.prog k3 := tells_good good told2 ⟨_, _, Try.func55, rfl⟩ (cOf rfl rfl)
theorem told4 : GoodX Try.prog k4 := tells_good good told3 ⟨_, _, Try.func32, rfl⟩ (cIs rfl)
theorem told5 : GoodX Try.prog k5 := tells_good good told4 ⟨_, _, Try.func47, rfl⟩ (cAll rfl rfl rfl)
abbrev k6 : Xs := xAdd k2 32 (.sum xIs)
abbrev kk : Xs := xAdd k6 47 (.sum (xAll 115))
theorem told6 : GoodX Try.prog k6 := tells_good good told2 ⟨_, _, Try.func32, rfl⟩ (cIs rfl)
theorem told : GoodX Try.prog kk := add_good told6 ⟨_, _, Try.func47, rfl⟩ (told5.sum 47 _ rfl)
noncomputable abbrev f2 : Fs := fAdd f1 59 (.sum (fSpans 115))
noncomputable abbrev f3 : Fs := fAdd f2 32 (.sum fIs)
noncomputable abbrev ff : Fs := fAdd f3 47 (.sum (fAll 115))
theorem both1 : Both f1 k1 := both_add both_none fun _ _ _ _ hq => fMore_ok hq
theorem both2 : Both f2 k2 := both_add both1 fun _ _ _ _ hq => fSpans_ok hq
theorem both3 : Both f3 k6 := both_add both2 fun _ _ _ _ hq => fIs_ok hq
theorem both : Both ff kk := both_add both3 fun _ _ _ _ hq => fAll_ok hq
theorem runsF : isTrueF (fcallF Try.prog ff (gex Try.prog ff 20000) 6 [] ⟨.nil, 0⟩) = true := by kernel_rfl
theorem runs : isTrue (callF Try.prog kk (ex Try.prog kk 20000) 6 [] ⟨.nil, 0⟩) = true := isTrueG_abs both runsF
abbrev kx : Xs := xAdd kk 6 (.sum xTrue)
theorem toldX : GoodX Try.prog kx := closed_good good told runs
abbrev kv : Xs := xAdd k1 6 (.sum xTrue)
theorem toldV : GoodX Try.prog kv := add_good told1 ⟨_, _, Try.func6, rfl⟩ (toldX.sum 6 _ rfl)
abbrev kl : Xs := xAdd kv 47 (.sum (xAll 115))
theorem toldL : GoodX Try.prog kl := add_good toldV ⟨_, _, Try.func47, rfl⟩ (told5.sum 47 _ rfl)
theorem laid : laidOutB Try.prog = true := by kernel_rfl
theorem covered : ([22, 3, 46] : List TypeId).all (okT Try.prog 8) = true := by kernel_rfl
theorem readable : ([22, 3, 46] : List TypeId).all (fun t => Try.prog.readableRec t && Nat.blt t Try.prog.types.size) = true := by kernel_rfl

theorem lifted (os : Os) (started : os.Started) (H : Type) (enc : TypeId × Value → H) :
    ReturnsInHanded {} Try.checked os 5 .any (Rows.blobSpoilsSpec.pre6 enc Try.prog Try.f5 Rows.blobSpoilsRow.domain false) (Rows.blobSpoilsSpec.post enc Try.prog Try.f5 false true false false) := by
  refine returnsInHanded_of_change_sized (C := Try.checked) own started (by kernel_rfl) Try.func5
    (ChangeSpec.witness6 (enc := enc) (C := Try.checked) false ⟨#[], #[.slice none 0 0, .int .i64 0, .agg (Array.replicate 128 (.int .u8 0))], []⟩ 8 (by kernel_rfl) (by kernel_rfl) (by kernel_rfl) (by kernel_rfl)) ?_
  intro W base args ds gs before hval0 hW hcnd hsz _
  have hval : ∀ (j : Nat) t v, Try.f5.params[j]? = some t → args[j]? = some v → Value.okWide Try.prog W .any base t v := hval0
  have hW' := hW
  have hlt := hW.lt
  obtain ⟨p, q, hA0, hV, rfl, hfz, hnd⟩ := hW
  have hA : DataW.TrodAll enc Try.prog W 0 (fun _ => true) true Try.f5.params.toList args.toList ds p := hA0
  rw [Try.params5] at hA hval
  have hA1 : DataW.TrodAll enc Try.prog W 0 (fun _ => true) true [22, 3, 46] args.toList ds p := hA
  obtain ⟨rfl, rfl⟩ := trodVars_none hV
  have hsz1 : (DataW.weightsEach Try.prog [22, 3, 46] ds).all (· ≤ reachBytes) = true := by
    have hsz0 : (DataW.weightsEach Try.prog (Try.f5.params.toList ++ []) (ds ++ [])).all (· ≤ reachBytes) = true := hsz
    rw [List.append_nil, List.append_nil, Try.params5] at hsz0
    exact hsz0
  simp only [List.append_nil] at hW' hlt
  refine (law_args (base := base) (g := 8) (ts := [22, 3, 46]) good toldL (f := 5) rfl covered (fun h vs r => by obtain ⟨pa, na, ca, data, ati, rot, rfl, T, hr⟩ := spoils_args r; exact spoilsTrue rfl rfl ⟨⟨rfl, rfl, rfl, rfl, rfl, rfl, rfl, rfl, rfl, rfl, rfl, rfl, rfl, rfl, rfl, rfl, rfl⟩, ⟨rfl, rfl, rfl, rfl, rfl, rfl, rfl, rfl, rfl, rfl, rfl, rfl, rfl, rfl, rfl, rfl, rfl, rfl, rfl, rfl, rfl, rfl, rfl, rfl, rfl, rfl, rfl, rfl, rfl, rfl, rfl⟩, rfl, rfl, rfl, rfl, rfl, rfl, rfl, rfl, rfl, rfl⟩ rfl rfl T ati hr) (fun j t v h1 h2 => hval j t v (by simpa using h1) h2) hA1 hsz1).mono fun e W' ⟨he, hg⟩ => ?_
  subst he
  have hlen : ds.length = 3 := trodAll_len hA1
  match ds, hlen, hA1, hW' with
  | [d0, d1, d2], _, hA1, hW' =>
    exact ⟨_, rfl, post_kept (pa := p) (pv := []) hW' (fun _ _ _ => (trodAll_cons_mk (shut_bool Try.underlying4 _) trodAll_mk0)) (fun sp hsp => trodAll_kept laid hg readable hA1 hlt hsp) (fun _ _ => rfl) (List.append_nil _).symm
      hg (ok_one (by kernel_rfl) rfl (okWide_bool_mk Try.underlying4 _))⟩

theorem over : Rows.blobSpoilsRow.holds Try.pinned (OpenSpec.ofChange Rows.blobSpoilsSpec) :=
  OpenClaim.holds_of_wide 5 Try.f5 rfl rfl rfl rfl rfl rfl rfl ⟨rfl, rfl, rfl, rfl, rfl⟩ rfl rfl rfl rfl rfl (by kernel_rfl) Try.func5 (by kernel_rfl)
    (of_decide_eq_true (by kernel_rfl)) (by unfold Func.isWrapper; first | (rw [if_pos (by decide +kernel)]; kernel_rfl) | (rw [if_neg (by decide +kernel)]; exact ⟨rfl, rfl⟩))
    (fun os started H enc _ => lifted os started H enc)

theorem proved : Rows.BlobSpoilsSaid := over
#print axioms proved
end Go.Proofs.Yteblpmcekhcgiad.blobSpoils
