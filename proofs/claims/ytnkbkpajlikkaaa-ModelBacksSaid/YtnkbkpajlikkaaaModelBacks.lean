/-
  The law aquiferlaw21.ModelBacks: whatever its arguments are, it returns true, at every tape and in every world, and every old block is as it was. The chapter's example is run by the abstract machine (kernel), of which some functions are told by contracts; the law's own text by the weakest conditions of its functions; the arguments are read as trees. No condition.
-/
import Derived.Test.YtnkbkpajlikkaaaRows
import Derived.WalkKit
import Derived.ProofKit
import Derived.OpenShut
import Derived.SizedLaws
import Derived.Test.YtnkbkpajlikkaaaAmS
import Derived.Test.YtnkbkpajlikkaaaAmH
import Derived.Test.YtnkbkpajlikkaaaCMoF
namespace Go.Proofs.Ytnkbkpajlikkaaa.modelBacks
open Go.ChangeShapes Go.WideShapes Go.ChangeAt Go.RowKit Go.Am
set_option linter.unusedVariables false
set_option maxRecDepth 100000

theorem own : ownKnob Try.prog.godebug = none := by kernel_rfl
theorem good : Go.Am.Good Try.prog := Go.Am.Good.of (by kernel_rfl) (by kernel_rfl) (by kernel_rfl)
abbrev k1 : Xs := (xByte 77)
theorem told1 : GoodX Try.prog k1 := (xByte_good ⟨Try.f77, Try.func77, rfl, by kernel_rfl, by kernel_rfl, by kernel_rfl⟩)
abbrev kk : Xs := xAdd k1 10 (.sum (xVersions 64))
theorem told : GoodX Try.prog kk := tellsM_good good told1 ⟨_, _, Try.func10, rfl⟩ (cVers good)
theorem runs : isTrue (callF Try.prog kk (ex Try.prog kk 200) 7 [] ⟨.nil, 0⟩) = true := by kernel_rfl
abbrev kl : Xs := xAdd (xAdd kk 7 (.sum xTrue)) 55 (.ext xClone)
theorem toldL : GoodX Try.prog kl := ext_good (closed_good good told runs) (clone_ext ⟨Try.f55, Try.func55, rfl, by kernel_rfl, by kernel_rfl, by kernel_rfl⟩)
theorem laid : laidOutB Try.prog = true := by kernel_rfl
theorem covered : ([28, 32] : List TypeId).all (okT Try.prog 9) = true := by kernel_rfl
theorem readable : ([28, 32] : List TypeId).all (fun t => Try.prog.readableRec t && Nat.blt t Try.prog.types.size) = true := by kernel_rfl

theorem lifted (os : Os) (started : os.Started) (H : Type) (enc : TypeId × Value → H) :
    ReturnsInHanded {} Try.checked os 6 .any (Rows.modelBacksSpec.pre6 enc Try.prog Try.f6 Rows.modelBacksRow.domain false) (Rows.modelBacksSpec.post enc Try.prog Try.f6 false true false false) := by
  refine returnsInHanded_of_change_sized (C := Try.checked) own started (by kernel_rfl) Try.func6
    (ChangeSpec.witness6 (enc := enc) (C := Try.checked) false ⟨#[], #[.slice none 0 0, .agg #[.int .i64 0, .string (ByteArray.mk #[]), .string (ByteArray.mk #[]), .int .i64 0, .slice none 0 0, .slice none 0 0]], []⟩ 8 (by kernel_rfl) (by kernel_rfl) (by kernel_rfl) (by kernel_rfl)) ?_
  intro W base args ds gs before hval0 hW hcnd hsz _
  have hval : ∀ (j : Nat) t v, Try.f6.params[j]? = some t → args[j]? = some v → Value.okWide Try.prog W .any base t v := hval0
  have hW' := hW
  have hlt := hW.lt
  obtain ⟨p, q, hA0, hV, rfl, hfz, hnd⟩ := hW
  have hA : DataW.TrodAll enc Try.prog W 0 (fun _ => true) true Try.f6.params.toList args.toList ds p := hA0
  rw [Try.params6] at hA hval
  have hA1 : DataW.TrodAll enc Try.prog W 0 (fun _ => true) true [28, 32] args.toList ds p := hA
  obtain ⟨rfl, rfl⟩ := trodVars_none hV
  have hsz1 : (DataW.weightsEach Try.prog [28, 32] ds).all (· ≤ reachBytes) = true := by
    have hsz0 : (DataW.weightsEach Try.prog (Try.f6.params.toList ++ []) (ds ++ [])).all (· ≤ reachBytes) = true := hsz
    rw [List.append_nil, List.append_nil, Try.params6] at hsz0
    exact hsz0
  simp only [List.append_nil] at hW' hlt
  refine (law_args (base := base) (g := 9) (ts := [28, 32]) good toldL (f := 6) rfl covered (fun h vs r => by obtain ⟨p, n, c, os, o, pd, nd, cd, pk, nk, ck, rfl, A, T, t2, t3⟩ := apart_args r; exact backsTrue rfl rfl (by repeat' (first | rfl | constructor)) A t2) (fun j t v h1 h2 => hval j t v (by simpa using h1) h2) hA1 hsz1).mono fun e W' ⟨he, hg⟩ => ?_
  subst he
  have hlen : ds.length = 2 := trodAll_len hA1
  match ds, hlen, hA1, hW' with
  | [d0, d1], _, hA1, hW' =>
    exact ⟨_, rfl, post_kept (pa := p) (pv := []) hW' (fun _ _ _ => (trodAll_cons_mk (shut_bool Try.underlying4 _) trodAll_mk0)) (fun sp hsp => trodAll_kept laid hg readable hA1 hlt hsp) (fun _ _ => rfl) (List.append_nil _).symm
      hg (ok_one (by kernel_rfl) rfl (okWide_bool_mk Try.underlying4 _))⟩

theorem over : Rows.modelBacksRow.holds Try.pinned (OpenSpec.ofChange Rows.modelBacksSpec) :=
  OpenClaim.holds_of_wide 6 Try.f6 rfl rfl rfl rfl rfl rfl rfl ⟨rfl, rfl, rfl, rfl, rfl⟩ rfl rfl rfl rfl rfl (by kernel_rfl) Try.func6 (by kernel_rfl)
    (of_decide_eq_true (by kernel_rfl)) (by unfold Func.isWrapper; first | (rw [if_pos (by decide +kernel)]; kernel_rfl) | (rw [if_neg (by decide +kernel)]; exact ⟨rfl, rfl⟩))
    (fun os started H enc _ => lifted os started H enc)

theorem proved : Rows.ModelBacksSaid := over
#print axioms proved
end Go.Proofs.Ytnkbkpajlikkaaa.modelBacks
