/-
  The law aquiferlaw19.TxgCopies: whatever its arguments are, it returns true, at every tape and in every world, and every old block is as it was. The chapter's example is run by the abstract machine (kernel), call by call; the law's own text by the weakest conditions of its functions; the arguments are read as trees. No condition.
-/
import Derived.Test.YtihmdaifbmchjaaGreatRows
import Derived.WalkKit
import Derived.ProofKit
import Derived.OpenShut
import Derived.SizedLaws
import Derived.Test.YtihmdaifbmchjaaGreatMemoZ
import Derived.Test.YtihmdaifbmchjaaGreatAmH
import Derived.Test.YtihmdaifbmchjaaGreatCpO
namespace Go.Proofs.YtihmdaifbmchjaaGreat.txgCopies
open Go.ChangeShapes Go.WideShapes Go.ChangeAt Go.RowKit Go.Am Go.Proofs.YtihmdaifbmchjaaGreat.mm
set_option linter.unusedVariables false
set_option maxRecDepth 100000

theorem runsF : zn2 (zfo Tryz.prog fZ (gex Tryz.prog fZ 20000) 4 [] ⟨.nil, 0⟩) = true := by kernel_rfl
theorem runs : zjG (zce Tryz.prog kZ (ex Tryz.prog kZ 20000) 4 [] ⟨.nil, 0⟩) = true := zol zCw runsF
theorem toldA : zbL Tryz.prog (zi6 kZ 4 (.sum zsv)) := zoc zuM zCv runs
abbrev ke : Xs := zi6 k3 33 (.sum (znv 90))
theorem toldE : zbL Tryz.prog ke := zek zAc ⟨_, _, Tryz.func33, rfl⟩ (zAd.sum 33 _ rfl)
abbrev kl : Xs := zi6 ke 4 (.sum zsv)
theorem toldL : zbL Tryz.prog kl := zek toldE ⟨_, _, Tryz.func4, rfl⟩ (toldA.sum 4 _ rfl)
theorem laid : laidOutB Tryz.prog = true := by kernel_rfl
theorem covered : ([3, 25, 3] : List TypeId).all (okT Tryz.prog 8) = true := by kernel_rfl
theorem readable : ([3, 25, 3] : List TypeId).all (fun t => Tryz.prog.readableRec t && Nat.blt t Tryz.prog.types.size) = true := by kernel_rfl

theorem lifted (os : Os) (started : os.Started) (H : Type) (enc : TypeId × Value → H) :
    ReturnsInHanded {} Tryz.checked os 3 .any (Rows.txgCopiesSpec.pre6 enc Tryz.prog Tryz.f3 Rows.txgCopiesRow.domain false) (Rows.txgCopiesSpec.post enc Tryz.prog Tryz.f3 false true false false) := by
  refine returnsInHanded_of_change_sized (C := Tryz.checked) own started (by kernel_rfl) Tryz.func3
    (ChangeSpec.witness6 (enc := enc) (C := Tryz.checked) false ⟨#[], #[.int .i64 0, .agg #[.int .u64 0, .slice none 0 0], .int .i64 0], []⟩ 8 (by kernel_rfl) (by kernel_rfl) (by kernel_rfl) (by kernel_rfl)) ?_
  intro W base args ds gs before hval0 hW hcnd hsz _
  have hval : ∀ (j : Nat) t v, Tryz.f3.params[j]? = some t → args[j]? = some v → Value.okWide Tryz.prog W .any base t v := hval0
  have hW' := hW
  have hlt := hW.lt
  obtain ⟨p, q, hA0, hV, rfl, hfz, hnd⟩ := hW
  have hA : DataW.TrodAll enc Tryz.prog W 0 (fun _ => true) true Tryz.f3.params.toList args.toList ds p := hA0
  rw [Tryz.params3] at hA hval
  have hA1 : DataW.TrodAll enc Tryz.prog W 0 (fun _ => true) true [3, 25, 3] args.toList ds p := hA
  obtain ⟨rfl, rfl⟩ := trodVars_none hV
  have hsz1 : (DataW.weightsEach Tryz.prog [3, 25, 3] ds).all (· ≤ reachBytes) = true := by
    have hsz0 : (DataW.weightsEach Tryz.prog (Tryz.f3.params.toList ++ []) (ds ++ [])).all (· ≤ reachBytes) = true := hsz
    rw [List.append_nil, List.append_nil, Tryz.params3] at hsz0
    exact hsz0
  simp only [List.append_nil] at hW' hlt
  refine (zvZ (base := base) (g := 8) (ts := [3, 25, 3]) zuM toldL (f := 3) rfl covered (fun h vs r => by obtain ⟨x, nx, p, n, c, rs, t, rfl, T⟩ := zo5 r; exact zrB rfl rfl (by repeat' (first | rfl | constructor)) (by repeat' (first | rfl | constructor)) T x nx t) (fun j t v h1 h2 => hval j t v (by simpa using h1) h2) hA1 hsz1).mono fun e W' ⟨he, hg⟩ => ?_
  subst he
  have hlen : ds.length = 3 := zir hA1
  match ds, hlen, hA1, hW' with
  | [d0, d1, d2], _, hA1, hW' =>
    exact ⟨_, rfl, zsa (pa := p) (pv := []) hW' (fun _ _ _ => (trodAll_cons_mk (shut_bool Tryz.underlying4 _) trodAll_mk0)) (fun sp hsp => zgS laid hg readable hA1 hlt hsp) (fun _ _ => rfl) (List.append_nil _).symm
      hg (ok_one (by kernel_rfl) rfl (okWide_bool_mk Tryz.underlying4 _))⟩

theorem over : Rows.txgCopiesRow.holds Tryz.pinned (OpenSpec.ofChange Rows.txgCopiesSpec) :=
  OpenClaim.holds_of_wide 3 Tryz.f3 rfl rfl rfl rfl rfl rfl rfl ⟨rfl, rfl, rfl, rfl, rfl⟩ rfl rfl rfl rfl rfl (by kernel_rfl) Tryz.func3 (by kernel_rfl)
    (of_decide_eq_true (by kernel_rfl)) (by unfold Func.isWrapper; first | (rw [if_pos (by decide +kernel)]; kernel_rfl) | (rw [if_neg (by decide +kernel)]; exact ⟨rfl, rfl⟩))
    (fun os started H enc _ => lifted os started H enc)

theorem proved : Rows.TxgCopiesSaid := over
#print axioms proved
end Go.Proofs.YtihmdaifbmchjaaGreat.txgCopies
