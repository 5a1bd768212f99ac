/-
  The law aquiferlaw23.ScriptTwice: whatever its argument is, it returns true, at every tape and in every world, and every old block is as it was. The chapter's example is run by the abstract machine (kernel), of which some functions are told by contracts; what the pool does is told by types; two runs of a script, its own and that of the script read back from its bytes, are one made-up world's; the argument is read as a tree. No condition.
-/
import Derived.Test.YtmnbboleclchcaaGreatRows
import Derived.WalkKit
import Derived.ProofKit
import Derived.OpenShut
import Derived.SizedLaws
import Derived.Test.YtmnbboleclchcaaGreatFCTold
set_option linter.unusedSimpArgs false
set_option linter.unusedVariables false
namespace Go.Proofs.YtmnbboleclchcaaGreat.scriptTwice
open Go.ChangeShapes Go.WideShapes Go.ChangeAt Go.RowKit Go.Am
set_option linter.unusedVariables false
set_option maxRecDepth 100000

theorem own : ownKnob Tryz.prog.godebug = none := by kernel_rfl
theorem good : Go.Am.zdM Tryz.prog := Go.Am.zdM.of (by kernel_rfl) (by kernel_rfl) (by kernel_rfl)
theorem told0 : zbK Tryz.prog (zjh 266) := zpB ⟨Tryz.f266, Tryz.func266, rfl, by kernel_rfl, by kernel_rfl, by kernel_rfl⟩
theorem told1 : zbK Tryz.prog k1 := zem good told0 ⟨_, _, Tryz.func221, rfl⟩ (zAB rfl)
theorem toldA : zbK Tryz.prog (zmS k1 217 (.sum zzn)) := zem good told1 ⟨_, _, Tryz.func217, rfl⟩ (zFW rfl rfl rfl rfl)
theorem told3 : zbK Tryz.prog k3 := zfs (zem good told1 ⟨_, _, Tryz.func253, rfl⟩ (zy1 rfl)) ⟨_, _, Tryz.func217, rfl⟩ (toldA.sum 217 _ rfl)
theorem told : zbK Tryz.prog kz := zem good told3 ⟨_, _, Tryz.func117, rfl⟩ (zxc rfl rfl)
theorem toldX : zbK Tryz.prog KB := zfs (zst good told0) ⟨_, _, Tryz.func5, rfl⟩ ((znw good told ((zu5 2000).symm ▸ zy3)).sum 5 _ rfl)
theorem laid : laidOutB Tryz.prog = true := by kernel_rfl
theorem covered : ([24] : List TypeId).all (okT Tryz.prog 8) = true := by kernel_rfl
theorem readable : ([24] : List TypeId).all (fun t => Tryz.prog.readableRec t && Nat.blt t Tryz.prog.types.size) = true := by kernel_rfl

theorem lifted (os : Os) (started : os.Started) (H : Type) (enc : TypeId × Value → H) :
    ReturnsInHanded {} Tryz.checked os 3 .any (Rows.scriptTwiceSpec.pre6 enc Tryz.prog Tryz.f3 Rows.scriptTwiceRow.domain false) (Rows.scriptTwiceSpec.post enc Tryz.prog Tryz.f3 false true false false) := by
  refine returnsInHanded_of_change_sized (C := Tryz.checked) own started (by kernel_rfl) Tryz.func3
    (ChangeSpec.witness6 (enc := enc) (C := Tryz.checked) false ⟨#[], #[.agg #[.int .i64 0, .slice none 0 0]], []⟩ 8 (by kernel_rfl) (by kernel_rfl) (by kernel_rfl) (by kernel_rfl)) ?_
  intro W base args ds gs before hval0 hW hcnd hsz _
  have hval : ∀ (j : Nat) t v, Tryz.f3.params[j]? = some t → args[j]? = some v → Value.okWide Tryz.prog W .any base t v := hval0
  have hW' := hW
  have hlt := hW.lt
  obtain ⟨p, q, hA0, hV, rfl, hfz, hnd⟩ := hW
  have hA : DataW.TrodAll enc Tryz.prog W 0 (fun _ => true) true Tryz.f3.params.toList args.toList ds p := hA0
  rw [Tryz.params3] at hA hval
  have hA1 : DataW.TrodAll enc Tryz.prog W 0 (fun _ => true) true [24] args.toList ds p := hA
  obtain ⟨rfl, rfl⟩ := trodVars_none hV
  have hsz1 : (DataW.weightsEach Tryz.prog [24] ds).all (· ≤ reachBytes) = true := by
    have hsz0 : (DataW.weightsEach Tryz.prog (Tryz.f3.params.toList ++ []) (ds ++ [])).all (· ≤ reachBytes) = true := hsz
    rw [List.append_nil, List.append_nil, Tryz.params3] at hsz0
    exact hsz0
  simp only [List.append_nil] at hW' hlt
  refine (zog good toldX covered (fun j t v h1 h2 => hval j t v (by simpa using h1) h2) hA1 hsz1).mono fun e W' ⟨he, hg⟩ => ?_
  subst he
  have hlen : ds.length = 1 := zid hA1
  match ds, hlen, hA1, hW' with
  | [d0], _, hA1, hW' =>
    exact ⟨_, rfl, ztc (pa := p) (pv := []) hW' (fun _ _ _ => (trodAll_cons_mk (shut_bool Tryz.underlying4 _) trodAll_mk0)) (fun sp hsp => zgU laid hg readable hA1 hlt hsp) (fun _ _ => rfl) (List.append_nil _).symm
      hg (ok_one (by kernel_rfl) rfl (okWide_bool_mk Tryz.underlying4 _))⟩

theorem over : Rows.scriptTwiceRow.holds Tryz.pinned (OpenSpec.ofChange Rows.scriptTwiceSpec) :=
  OpenClaim.holds_of_wide 3 Tryz.f3 rfl rfl rfl rfl rfl rfl rfl ⟨rfl, rfl, rfl, rfl, rfl⟩ rfl rfl rfl rfl rfl (by kernel_rfl) Tryz.func3 (by kernel_rfl)
    (of_decide_eq_true (by kernel_rfl)) (by unfold Func.isWrapper; first | (rw [if_pos (by decide +kernel)]; kernel_rfl) | (rw [if_neg (by decide +kernel)]; exact ⟨rfl, rfl⟩))
    (fun os started H enc _ => lifted os started H enc)

theorem proved : Rows.ScriptTwiceSaid := over
#print axioms proved
end Go.Proofs.YtmnbboleclchcaaGreat.scriptTwice
