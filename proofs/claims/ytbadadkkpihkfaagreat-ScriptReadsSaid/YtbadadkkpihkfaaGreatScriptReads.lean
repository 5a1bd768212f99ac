/-
  The law aquiferlaw23.ScriptReads: whatever its arguments are, it returns true, at every tape and in every world, and every old block is as it was. The chapter's example is run by the abstract machine (kernel), of which some functions are told by contracts; the law's own text by the weakest conditions of its functions; the arguments are read as trees. No condition.
-/
import Derived.Test.YtbadadkkpihkfaaGreatRows
import Derived.WalkKit
import Derived.ProofKit
import Derived.OpenShut
import Derived.SizedLaws
import Derived.Test.YtbadadkkpihkfaaGreatCMore
import Derived.Test.YtbadadkkpihkfaaGreatCSpans
import Derived.Test.YtbadadkkpihkfaaGreatCOf
import Derived.Test.YtbadadkkpihkfaaGreatCIs
import Derived.Test.YtbadadkkpihkfaaGreatCAll
import Derived.Test.YtbadadkkpihkfaaGreatAmF
import Derived.Test.YtbadadkkpihkfaaGreatAmH
import Derived.Test.YtbadadkkpihkfaaGreatCScrL
namespace Go.Proofs.YtbadadkkpihkfaaGreat.scriptReads
open Go.ChangeShapes Go.WideShapes Go.ChangeAt Go.RowKit Go.Am
set_option linter.unusedVariables false
set_option maxRecDepth 100000

theorem own : ownKnob Tryz.prog.godebug = none := by kernel_rfl
theorem good : Go.Am.Good Tryz.prog := Go.Am.Good.of (by kernel_rfl) (by kernel_rfl) (by kernel_rfl)
abbrev k1 : Xs := xAdd (xByte 276) 231 (.sum xMore)
noncomputable abbrev f1 : Fs := fAdd (fByte 276) 231 (.sum fMore)
theorem told1 : GoodX Tryz.prog k1 := tells_good good (xByte_good ⟨Tryz.f276, Tryz.func276, rfl, by kernel_rfl, by kernel_rfl, by kernel_rfl⟩) ⟨_, _, Tryz.func231, rfl⟩ (cMore rfl)
abbrev k2 : Xs := xAdd k1 263 (.sum (xSpans 308))
abbrev k3 : Xs := xAdd k2 241 (.sum (xOf 308))
abbrev k4 : Xs := xAdd k3 188 (.sum xIs)
abbrev k5 : Xs := xAdd k4 227 (.sum (xAll 308))
theorem told2 : GoodX Tryz.prog k2 := tells_good good told1 ⟨_, _, Tryz.func263, rfl⟩ (cSpans rfl)
theorem told3 : GoodX Tryz.prog k3 := tells_good good told2 ⟨_, _, Tryz.func241, rfl⟩ (cOf rfl rfl)
theorem told4 : GoodX Tryz.prog k4 := tells_good good told3 ⟨_, _, Tryz.func188, rfl⟩ (cIs rfl)
theorem told5 : GoodX Tryz.prog k5 := tells_good good told4 ⟨_, _, Tryz.func227, rfl⟩ (cAll rfl rfl rfl)
abbrev k6 : Xs := xAdd k2 188 (.sum xIs)
abbrev kk : Xs := xAdd k6 227 (.sum (xAll 308))
theorem told6 : GoodX Tryz.prog k6 := tells_good good told2 ⟨_, _, Tryz.func188, rfl⟩ (cIs rfl)
theorem told : GoodX Tryz.prog kk := add_good told6 ⟨_, _, Tryz.func227, rfl⟩ (told5.sum 227 _ rfl)
noncomputable abbrev f2 : Fs := fAdd f1 263 (.sum (fSpans 308))
noncomputable abbrev f3 : Fs := fAdd f2 188 (.sum fIs)
noncomputable abbrev ff : Fs := fAdd f3 227 (.sum (fAll 308))
theorem both1 : Both f1 k1 := both_add (both_byte 276) fun _ _ _ _ hq => fMore_ok hq
theorem both2 : Both f2 k2 := both_add both1 fun _ _ _ _ hq => fSpans_ok hq
theorem both3 : Both f3 k6 := both_add both2 fun _ _ _ _ hq => fIs_ok hq
theorem both : Both ff kk := both_add both3 fun _ _ _ _ hq => fAll_ok hq
theorem runsF : isTrueF (fcallF Tryz.prog ff (gex Tryz.prog ff 20000) 9 [] ⟨.nil, 0⟩) = true := by kernel_rfl
theorem runs : isTrue (callF Tryz.prog kk (ex Tryz.prog kk 20000) 9 [] ⟨.nil, 0⟩) = true := isTrueG_abs both runsF
abbrev kx : Xs := xAdd kk 9 (.sum xTrue)
theorem toldX : GoodX Tryz.prog kx := closed_good good told runs
abbrev kv : Xs := xAdd k1 9 (.sum xTrue)
theorem toldV : GoodX Tryz.prog kv := add_good told1 ⟨_, _, Tryz.func9, rfl⟩ (toldX.sum 9 _ rfl)
abbrev kl : Xs := xAdd kv 227 (.sum (xAll 308))
theorem toldL : GoodX Tryz.prog kl := add_good toldV ⟨_, _, Tryz.func227, rfl⟩ (told5.sum 227 _ rfl)
theorem laid : laidOutB Tryz.prog = true := by kernel_rfl
theorem covered : ([26] : List TypeId).all (okT Tryz.prog 8) = true := by kernel_rfl
theorem readable : ([26] : List TypeId).all (fun t => Tryz.prog.readableRec t && Nat.blt t Tryz.prog.types.size) = true := by kernel_rfl

theorem lifted (os : Os) (started : os.Started) (H : Type) (enc : TypeId × Value → H) :
    ReturnsInHanded {} Tryz.checked os 4 .any (Rows.scriptReadsSpec.pre6 enc Tryz.prog Tryz.f4 Rows.scriptReadsRow.domain false) (Rows.scriptReadsSpec.post enc Tryz.prog Tryz.f4 false true false false) := by
  refine returnsInHanded_of_change_sized (C := Tryz.checked) own started (by kernel_rfl) Tryz.func4
    (ChangeSpec.witness6 (enc := enc) (C := Tryz.checked) false ⟨#[], #[.slice none 0 0], []⟩ 8 (by kernel_rfl) (by kernel_rfl) (by kernel_rfl) (by kernel_rfl)) ?_
  intro W base args ds gs before hval0 hW hcnd hsz _
  have hval : ∀ (j : Nat) t v, Tryz.f4.params[j]? = some t → args[j]? = some v → Value.okWide Tryz.prog W .any base t v := hval0
  have hW' := hW
  have hlt := hW.lt
  obtain ⟨p, q, hA0, hV, rfl, hfz, hnd⟩ := hW
  have hA : DataW.TrodAll enc Tryz.prog W 0 (fun _ => true) true Tryz.f4.params.toList args.toList ds p := hA0
  rw [Tryz.params4] at hA hval
  have hA1 : DataW.TrodAll enc Tryz.prog W 0 (fun _ => true) true [26] args.toList ds p := hA
  obtain ⟨rfl, rfl⟩ := trodVars_none hV
  have hsz1 : (DataW.weightsEach Tryz.prog [26] ds).all (· ≤ reachBytes) = true := by
    have hsz0 : (DataW.weightsEach Tryz.prog (Tryz.f4.params.toList ++ []) (ds ++ [])).all (· ≤ reachBytes) = true := hsz
    rw [List.append_nil, List.append_nil, Tryz.params4] at hsz0
    exact hsz0
  simp only [List.append_nil] at hW' hlt
  refine (law_args (base := base) (g := 8) (ts := [26]) good toldL (f := 4) rfl covered (fun h vs r => by obtain ⟨p, n, c, data, rfl, T, C⟩ := bytes_args r; exact scriptReadsTrue rfl rfl ⟨⟨rfl, rfl, rfl, rfl, rfl, rfl, rfl, rfl⟩, rfl, rfl, rfl, rfl, rfl, rfl⟩ ⟨⟨rfl, rfl, rfl, rfl, rfl, rfl, rfl, rfl, rfl⟩, rfl, rfl, rfl⟩ T C) (fun j t v h1 h2 => hval j t v (by simpa using h1) h2) hA1 hsz1).mono fun e W' ⟨he, hg⟩ => ?_
  subst he
  have hlen : ds.length = 1 := trodAll_len hA1
  match ds, hlen, hA1, hW' with
  | [d0], _, hA1, hW' =>
    exact ⟨_, rfl, post_kept (pa := p) (pv := []) hW' (fun _ _ _ => (trodAll_cons_mk (shut_bool Tryz.underlying4 _) trodAll_mk0)) (fun sp hsp => trodAll_kept laid hg readable hA1 hlt hsp) (fun _ _ => rfl) (List.append_nil _).symm
      hg (ok_one (by kernel_rfl) rfl (okWide_bool_mk Tryz.underlying4 _))⟩

theorem over : Rows.scriptReadsRow.holds Tryz.pinned (OpenSpec.ofChange Rows.scriptReadsSpec) :=
  OpenClaim.holds_of_wide 4 Tryz.f4 rfl rfl rfl rfl rfl rfl rfl ⟨rfl, rfl, rfl, rfl, rfl⟩ rfl rfl rfl rfl rfl (by kernel_rfl) Tryz.func4 (by kernel_rfl)
    (of_decide_eq_true (by kernel_rfl)) (by unfold Func.isWrapper; first | (rw [if_pos (by decide +kernel)]; kernel_rfl) | (rw [if_neg (by decide +kernel)]; exact ⟨rfl, rfl⟩))
    (fun os started H enc _ => lifted os started H enc)

theorem proved : Rows.ScriptReadsSaid := over
#print axioms proved
end Go.Proofs.YtbadadkkpihkfaaGreat.scriptReads
