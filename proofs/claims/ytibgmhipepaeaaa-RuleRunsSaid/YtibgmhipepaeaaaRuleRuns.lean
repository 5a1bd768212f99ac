/-
  The law aquiferlaw17.RuleRuns: whatever its arguments are, it returns true, at every tape and in every world, and every old block is as it was. The chapter's example is run by the abstract machine (kernel), of which some functions are told by contracts; the law's own text by the weakest conditions of its functions; the arguments are read as trees. No condition.
-/
import Derived.Test.YtibgmhipepaeaaaRows
import Derived.WalkKit
import Derived.ProofKit
import Derived.OpenShut
import Derived.SizedLaws
import Derived.Test.YtibgmhipepaeaaaAmS
import Derived.Test.YtibgmhipepaeaaaAmH
import Derived.Test.YtibgmhipepaeaaaCRuI
namespace Go.Proofs.Ytibgmhipepaeaaa.ruleRuns
open Go.ChangeShapes Go.WideShapes Go.ChangeAt Go.RowKit Go.Am
set_option linter.unusedVariables false
set_option maxRecDepth 100000

theorem own : ownKnob Try.prog.godebug = none := by kernel_rfl
theorem good : Go.Am.Good Try.prog := Go.Am.Good.of (by kernel_rfl) (by kernel_rfl) (by kernel_rfl)
abbrev k1 : Xs := (xByte 118)
theorem told1 : GoodX Try.prog k1 := (xByte_good ⟨Try.f118, Try.func118, rfl, by kernel_rfl, by kernel_rfl, by kernel_rfl⟩)
theorem runs : isTrue (callF Try.prog k1 (ex Try.prog k1 200) 15 [] ⟨.nil, 0⟩) = true := by kernel_rfl
abbrev kl : Xs := xAdd k1 15 (.sum xTrue)
theorem toldL : GoodX Try.prog kl := closed_good good told1 runs
theorem laid : laidOutB Try.prog = true := by kernel_rfl
theorem covered : ([67] : List TypeId).all (okT Try.prog 9) = true := by kernel_rfl
theorem readable : ([67] : List TypeId).all (fun t => Try.prog.readableRec t && Nat.blt t Try.prog.types.size) = true := by kernel_rfl

theorem lifted (os : Os) (started : os.Started) (H : Type) (enc : TypeId × Value → H) :
    ReturnsInHanded {} Try.checked os 10 .any (Rows.ruleRunsSpec.pre6 enc Try.prog Try.f10 Rows.ruleRunsRow.domain false) (Rows.ruleRunsSpec.post enc Try.prog Try.f10 false true false false) := by
  refine returnsInHanded_of_change_sized (C := Try.checked) own started (by kernel_rfl) Try.func10
    (ChangeSpec.witness6 (enc := enc) (C := Try.checked) false ⟨#[], #[.slice none 0 0], []⟩ 8 (by kernel_rfl) (by kernel_rfl) (by kernel_rfl) (by kernel_rfl)) ?_
  intro W base args ds gs before hval0 hW hcnd hsz _
  have hval : ∀ (j : Nat) t v, Try.f10.params[j]? = some t → args[j]? = some v → Value.okWide Try.prog W .any base t v := hval0
  have hW' := hW
  have hlt := hW.lt
  obtain ⟨p, q, hA0, hV, rfl, hfz, hnd⟩ := hW
  have hA : DataW.TrodAll enc Try.prog W 0 (fun _ => true) true Try.f10.params.toList args.toList ds p := hA0
  rw [Try.params10] at hA hval
  have hA1 : DataW.TrodAll enc Try.prog W 0 (fun _ => true) true [67] args.toList ds p := hA
  obtain ⟨rfl, rfl⟩ := trodVars_none hV
  have hsz1 : (DataW.weightsEach Try.prog [67] ds).all (· ≤ reachBytes) = true := by
    have hsz0 : (DataW.weightsEach Try.prog (Try.f10.params.toList ++ []) (ds ++ [])).all (· ≤ reachBytes) = true := hsz
    rw [List.append_nil, List.append_nil, Try.params10] at hsz0
    exact hsz0
  simp only [List.append_nil] at hW' hlt
  refine (law_args (base := base) (g := 9) (ts := [67]) good toldL (f := 10) rfl covered (fun h vs r => by obtain ⟨p, n, c, xa, rfl, A⟩ := runs_args r; exact runsTrue rfl rfl (by repeat' (first | rfl | constructor)) (by repeat' (first | rfl | constructor)) (by repeat' (first | rfl | constructor)) (by repeat' (first | rfl | constructor)) A) (fun j t v h1 h2 => hval j t v (by simpa using h1) h2) hA1 hsz1).mono fun e W' ⟨he, hg⟩ => ?_
  subst he
  have hlen : ds.length = 1 := trodAll_len hA1
  match ds, hlen, hA1, hW' with
  | [d0], _, hA1, hW' =>
    exact ⟨_, rfl, post_kept (pa := p) (pv := []) hW' (fun _ _ _ => (trodAll_cons_mk (shut_bool Try.underlying4 _) trodAll_mk0)) (fun sp hsp => trodAll_kept laid hg readable hA1 hlt hsp) (fun _ _ => rfl) (List.append_nil _).symm
      hg (ok_one (by kernel_rfl) rfl (okWide_bool_mk Try.underlying4 _))⟩

theorem over : Rows.ruleRunsRow.holds Try.pinned (OpenSpec.ofChange Rows.ruleRunsSpec) :=
  OpenClaim.holds_of_wide 10 Try.f10 rfl rfl rfl rfl rfl rfl rfl ⟨rfl, rfl, rfl, rfl, rfl⟩ rfl rfl rfl rfl rfl (by kernel_rfl) Try.func10 (by kernel_rfl)
    (of_decide_eq_true (by kernel_rfl)) (by unfold Func.isWrapper; first | (rw [if_pos (by decide +kernel)]; kernel_rfl) | (rw [if_neg (by decide +kernel)]; exact ⟨rfl, rfl⟩))
    (fun os started H enc _ => lifted os started H enc)

theorem proved : Rows.RuleRunsSaid := over
#print axioms proved
end Go.Proofs.Ytibgmhipepaeaaa.ruleRuns
