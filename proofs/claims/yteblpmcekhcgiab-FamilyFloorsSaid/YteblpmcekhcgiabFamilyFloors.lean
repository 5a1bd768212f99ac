/-
  The law aquiferlaw16.FamilyFloors: whatever its arguments are, it returns true, at every tape and in every world, and every old block is as it was. The chapter's example is run by the abstract machine (kernel), of which some functions are told by contracts; the law's own text by the weakest conditions of its functions; the arguments are read as trees. No condition.
-/
import Derived.Test.YteblpmcekhcgiabRows
import Derived.WalkKit
import Derived.ProofKit
import Derived.OpenShut
import Derived.SizedLaws
import Derived.Test.YteblpmcekhcgiabCMore
import Derived.Test.YteblpmcekhcgiabAmF
import Derived.Test.YteblpmcekhcgiabAmH
import Derived.Test.YteblpmcekhcgiabCFloors
import Derived.Test.YteblpmcekhcgiabCFamX
namespace Go.Proofs.Yteblpmcekhcgiab.familyFloors
open Go.ChangeShapes Go.WideShapes Go.ChangeAt Go.RowKit Go.Am
set_option linter.unusedVariables false
set_option maxRecDepth 100000

theorem own : ownKnob Try.prog.godebug = none := by kernel_rfl
theorem good : Go.Am.Good Try.prog := Go.Am.Good.of (by kernel_rfl) (by kernel_rfl) (by kernel_rfl)
abbrev k1 : Xs := xAdd (xByte 106) 93 (.sum xMore)
noncomputable abbrev f1 : Fs := fAdd (fByte 106) 93 (.sum fMore)
theorem told1 : GoodX Try.prog k1 := tells_good good (xByte_good ⟨Try.f106, Try.func106, rfl, by kernel_rfl, by kernel_rfl, by kernel_rfl⟩) ⟨_, _, Try.func93, rfl⟩ (cMore rfl)
theorem both1 : Both f1 k1 := both_add (both_byte 106) fun _ _ _ _ hq => fMore_ok hq
theorem runsF : isTrueF (fcallF Try.prog f1 (gex Try.prog f1 20000) 7 [] ⟨.nil, 0⟩) = true := by kernel_rfl
theorem runs : isTrue (callF Try.prog k1 (ex Try.prog k1 20000) 7 [] ⟨.nil, 0⟩) = true := isTrueG_abs both1 runsF
abbrev kl : Xs := xAdd k1 7 (.sum xTrue)
theorem toldL : GoodX Try.prog kl := closed_good good told1 runs
theorem laid : laidOutB Try.prog = true := by kernel_rfl
theorem covered : ([22] : List TypeId).all (okT Try.prog 8) = true := by kernel_rfl
theorem readable : ([22] : List TypeId).all (fun t => Try.prog.readableRec t && Nat.blt t Try.prog.types.size) = true := by kernel_rfl

theorem lifted (os : Os) (started : os.Started) (H : Type) (enc : TypeId × Value → H) :
    ReturnsInHanded {} Try.checked os 3 .any (Rows.familyFloorsSpec.pre6 enc Try.prog Try.f3 Rows.familyFloorsRow.domain false) (Rows.familyFloorsSpec.post enc Try.prog Try.f3 false true false false) := by
  refine returnsInHanded_of_change_sized (C := Try.checked) own started (by kernel_rfl) Try.func3
    (ChangeSpec.witness6 (enc := enc) (C := Try.checked) false ⟨#[], #[.slice none 0 0], []⟩ 8 (by kernel_rfl) (by kernel_rfl) (by kernel_rfl) (by kernel_rfl)) ?_
  intro W base args ds gs before hval0 hW hcnd hsz _
  have hval : ∀ (j : Nat) t v, Try.f3.params[j]? = some t → args[j]? = some v → Value.okWide Try.prog W .any base t v := hval0
  have hW' := hW
  have hlt := hW.lt
  obtain ⟨p, q, hA0, hV, rfl, hfz, hnd⟩ := hW
  have hA : DataW.TrodAll enc Try.prog W 0 (fun _ => true) true Try.f3.params.toList args.toList ds p := hA0
  rw [Try.params3] at hA hval
  have hA1 : DataW.TrodAll enc Try.prog W 0 (fun _ => true) true [22] args.toList ds p := hA
  obtain ⟨rfl, rfl⟩ := trodVars_none hV
  have hsz1 : (DataW.weightsEach Try.prog [22] ds).all (· ≤ reachBytes) = true := by
    have hsz0 : (DataW.weightsEach Try.prog (Try.f3.params.toList ++ []) (ds ++ [])).all (· ≤ reachBytes) = true := hsz
    rw [List.append_nil, List.append_nil, Try.params3] at hsz0
    exact hsz0
  simp only [List.append_nil] at hW' hlt
  refine (law_args (base := base) (g := 8) (ts := [22]) good toldL (f := 3) rfl covered (fun h vs r => by obtain ⟨p, n, c, rs, rfl, T⟩ := sets_args r; exact floorsTrue rfl rfl ⟨⟨rfl, rfl, rfl, rfl, rfl, rfl⟩, ⟨rfl, rfl, rfl⟩, rfl, rfl, rfl, rfl⟩ rfl rfl rfl T) (fun j t v h1 h2 => hval j t v (by simpa using h1) h2) hA1 hsz1).mono fun e W' ⟨he, hg⟩ => ?_
  subst he
  have hlen : ds.length = 1 := trodAll_len hA1
  match ds, hlen, hA1, hW' with
  | [d0], _, hA1, hW' =>
    exact ⟨_, rfl, post_kept (pa := p) (pv := []) hW' (fun _ _ _ => (trodAll_cons_mk (shut_bool Try.underlying4 _) trodAll_mk0)) (fun sp hsp => trodAll_kept laid hg readable hA1 hlt hsp) (fun _ _ => rfl) (List.append_nil _).symm
      hg (ok_one (by kernel_rfl) rfl (okWide_bool_mk Try.underlying4 _))⟩

theorem over : Rows.familyFloorsRow.holds Try.pinned (OpenSpec.ofChange Rows.familyFloorsSpec) :=
  OpenClaim.holds_of_wide 3 Try.f3 rfl rfl rfl rfl rfl rfl rfl ⟨rfl, rfl, rfl, rfl, rfl⟩ rfl rfl rfl rfl rfl (by kernel_rfl) Try.func3 (by kernel_rfl)
    (of_decide_eq_true (by kernel_rfl)) (by unfold Func.isWrapper; first | (rw [if_pos (by decide +kernel)]; kernel_rfl) | (rw [if_neg (by decide +kernel)]; exact ⟨rfl, rfl⟩))
    (fun os started H enc _ => lifted os started H enc)

theorem proved : Rows.FamilyFloorsSaid := over
#print axioms proved
end Go.Proofs.Yteblpmcekhcgiab.familyFloors
