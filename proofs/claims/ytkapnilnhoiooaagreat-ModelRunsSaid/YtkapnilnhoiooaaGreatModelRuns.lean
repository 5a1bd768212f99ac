/-
  The law aquiferlaw21.ModelRuns: whatever its arguments are, it returns true, at every tape and in every world, and every old block is as it was. The chapter's example is run by the abstract machine (kernel), of which some functions are told by contracts; the law's own text by the weakest conditions of its functions; the arguments are read as trees. No condition.
-/
import Derived.Test.YtkapnilnhoiooaaGreatRows
import Derived.WalkKit
import Derived.ProofKit
import Derived.OpenShut
import Derived.SizedLaws
import Derived.Test.YtkapnilnhoiooaaGreatAmS
import Derived.Test.YtkapnilnhoiooaaGreatAmH
import Derived.Test.YtkapnilnhoiooaaGreatCMrR
namespace Go.Proofs.YtkapnilnhoiooaaGreat.modelRuns
open Go.ChangeShapes Go.WideShapes Go.ChangeAt Go.RowKit Go.Am
set_option linter.unusedVariables false
set_option maxRecDepth 100000

theorem own : ownKnob Tryz.prog.godebug = none := by kernel_rfl
theorem good : Go.Am.zd7 Tryz.prog := Go.Am.zd7.of (by kernel_rfl) (by kernel_rfl) (by kernel_rfl)
abbrev k1 : Xs := (zqt 109)
theorem told1 : zb5 Tryz.prog k1 := (zpu ⟨Tryz.f109, Tryz.func109, rfl, by kernel_rfl, by kernel_rfl, by kernel_rfl⟩)
abbrev kk : Xs := zsS k1 12 (.sum (zc1 64))
theorem told : zb5 Tryz.prog kk := znR good told1 ⟨_, _, Tryz.func12, rfl⟩ (zw5 good)
theorem runs : zl3 (zdn Tryz.prog kk (ex Tryz.prog kk 200) 4 [] ⟨.nil, 0⟩) = true := by kernel_rfl
abbrev kl : Xs := zsS kk 4 (.sum zsT)
theorem toldL : zb5 Tryz.prog kl := znD good told runs
theorem laid : laidOutB Tryz.prog = true := by kernel_rfl
theorem covered : ([22, 9] : List TypeId).all (okT Tryz.prog 9) = true := by kernel_rfl
theorem readable : ([22, 9] : List TypeId).all (fun t => Tryz.prog.readableRec t && Nat.blt t Tryz.prog.types.size) = true := by kernel_rfl

theorem lifted (os : Os) (started : os.Started) (H : Type) (enc : TypeId × Value → H) :
    ReturnsInHanded {} Tryz.checked os 3 .any (Rows.modelRunsSpec.pre6 enc Tryz.prog Tryz.f3 Rows.modelRunsRow.domain false) (Rows.modelRunsSpec.post enc Tryz.prog Tryz.f3 false true false false) := by
  refine returnsInHanded_of_change_sized (C := Tryz.checked) own started (by kernel_rfl) Tryz.func3
    (ChangeSpec.witness6 (enc := enc) (C := Tryz.checked) false ⟨#[], #[.slice none 0 0, .string (ByteArray.mk #[])], []⟩ 8 (by kernel_rfl) (by kernel_rfl) (by kernel_rfl) (by kernel_rfl)) ?_
  intro W base args ds gs before hval0 hW hcnd hsz _
  have hval : ∀ (j : Nat) t v, Tryz.f3.params[j]? = some t → args[j]? = some v → Value.okWide Tryz.prog W .any base t v := hval0
  have hW' := hW
  have hlt := hW.lt
  obtain ⟨p, q, hA0, hV, rfl, hfz, hnd⟩ := hW
  have hA : DataW.TrodAll enc Tryz.prog W 0 (fun _ => true) true Tryz.f3.params.toList args.toList ds p := hA0
  rw [Tryz.params3] at hA hval
  have hA1 : DataW.TrodAll enc Tryz.prog W 0 (fun _ => true) true [22, 9] args.toList ds p := hA
  obtain ⟨rfl, rfl⟩ := trodVars_none hV
  have hsz1 : (DataW.weightsEach Tryz.prog [22, 9] ds).all (· ≤ reachBytes) = true := by
    have hsz0 : (DataW.weightsEach Tryz.prog (Tryz.f3.params.toList ++ []) (ds ++ [])).all (· ≤ reachBytes) = true := hsz
    rw [List.append_nil, List.append_nil, Tryz.params3] at hsz0
    exact hsz0
  simp only [List.append_nil] at hW' hlt
  refine (zs8 (base := base) (g := 9) (ts := [22, 9]) good toldL (f := 3) rfl covered (fun h vs r => by obtain ⟨p, n, c, os, f, rfl, A, hf⟩ := zp5 r; exact zsh rfl rfl ⟨by repeat' (first | rfl | constructor), ⟨rfl, rfl, rfl⟩, ⟨rfl, rfl⟩, by repeat' (first | rfl | constructor), rfl⟩ A hf) (fun j t v h1 h2 => hval j t v (by simpa using h1) h2) hA1 hsz1).mono fun e W' ⟨he, hg⟩ => ?_
  subst he
  have hlen : ds.length = 2 := ziN hA1
  match ds, hlen, hA1, hW' with
  | [d0, d1], _, hA1, hW' =>
    exact ⟨_, rfl, zqu (pa := p) (pv := []) hW' (fun _ _ _ => (trodAll_cons_mk (shut_bool Tryz.underlying4 _) trodAll_mk0)) (fun sp hsp => zhw laid hg readable hA1 hlt hsp) (fun _ _ => rfl) (List.append_nil _).symm
      hg (ok_one (by kernel_rfl) rfl (okWide_bool_mk Tryz.underlying4 _))⟩

theorem over : Rows.modelRunsRow.holds Tryz.pinned (OpenSpec.ofChange Rows.modelRunsSpec) :=
  OpenClaim.holds_of_wide 3 Tryz.f3 rfl rfl rfl rfl rfl rfl rfl ⟨rfl, rfl, rfl, rfl, rfl⟩ rfl rfl rfl rfl rfl (by kernel_rfl) Tryz.func3 (by kernel_rfl)
    (of_decide_eq_true (by kernel_rfl)) (by unfold Func.isWrapper; first | (rw [if_pos (by decide +kernel)]; kernel_rfl) | (rw [if_neg (by decide +kernel)]; exact ⟨rfl, rfl⟩))
    (fun os started H enc _ => lifted os started H enc)

theorem proved : Rows.ModelRunsSaid := over
#print axioms proved
end Go.Proofs.YtkapnilnhoiooaaGreat.modelRuns
