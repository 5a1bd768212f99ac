/-
  No cell of these rows narrows 'for every input' (looked for: loops, veiled, ifaces, maps, wideKeys, modest, calm, conditions, laid).
  DERIVED. THE GIVEN ROWS OF THIS SEAT. 4 by the template 'for every input the law returns true; each argument reads behind the call as it read before'; 0 by the template 'total and deterministic' (their statements: YteblpmcekhcgiabTotals.lean).
  GIVEN WITH THE SEED: the statements are not yours to turn. If you find one false, say at which input.
  Laid BY PROGRAM, IN A SANDBOX (cutbox-rows.mjs): the forced cells as the released guide's own fill.sh prints them over the translation ee3bf9d454421934… (all of the seat's roots in one cut). By AI agents, Wed Nov 11 2026. No macro, syntax, notation, axiom, sorry.
-/
import Derived.Test.YteblpmcekhcgiabChecked
import GoSem.Claim
import GoSem.ClaimJoined
import GoSem.ClaimMapViews
import Derived.JoinedTies
import Derived.KernelRfl
namespace Go.Proofs.Yteblpmcekhcgiab
/- THE CELL 'sum', in the pinned program and in every row, IS THE sha256 OF THE DUMP (.gsa) THAT YteblpmcekhcgiabProg.lean LOADS. Nothing in Lean hashes anything: it is a label: what it is worth is what the hold of that sum in a sandbox is worth. -/
noncomputable def Try.pinned : Pinned := { name := "yteblpmcekhcgiab", sum := "ee3bf9d4544219348ce58e1cc9bcf2282a1ed7450d41574fd932b6da15aa8d6c", checked := Try.checked }
namespace Rows
def none {H : Type} : Left H := { results := [], args := [] }

/-- 'aquiferlaw16.FamilyFloors': WHATEVER THE INPUT: true; the input reads as it did. -/
def familyFloorsSpec : ChangeSpec := { name := "familyFloors", fn := fun _ => fun
  | [d] => { results := [.lit (.bool true)], args := [d] }
  | _ => none }
def familyFloorsRow : OpenClaim := { program := "yteblpmcekhcgiab", sum := "ee3bf9d4544219348ce58e1cc9bcf2282a1ed7450d41574fd932b6da15aa8d6c", func := "aquifer/aquiferlaw16.FamilyFloors", spec := "familyFloors", inPlace := ["internal/bytealg.IndexByteString", "internal/bytealg.IndexString"], unfollowed := true, recurses := true, named := ["internal/bytealg.MaxLen"], plainKeys := false, apart := false }
def FamilyFloorsSaid : Prop := familyFloorsRow.holds Try.pinned (OpenSpec.ofChange familyFloorsSpec)

/-- ITS FALSE NEIGHBOUR: 'it returns false'. Refute it at one input. -/
def familyFloorsWrong : ChangeSpec := { name := "familyFloors", fn := fun _ => fun
  | [d] => { results := [.lit (.bool false)], args := [d] }
  | _ => none }
def FamilyFloorsWrongFalsely : Prop := familyFloorsRow.holds Try.pinned (OpenSpec.ofChange familyFloorsWrong)

/-- 'aquiferlaw16.FamilyNamed': WHATEVER THE INPUT: true; the input reads as it did. -/
def familyNamedSpec : ChangeSpec := { name := "familyNamed", fn := fun _ => fun
  | [d] => { results := [.lit (.bool true)], args := [d] }
  | _ => none }
def familyNamedRow : OpenClaim := { program := "yteblpmcekhcgiab", sum := "ee3bf9d4544219348ce58e1cc9bcf2282a1ed7450d41574fd932b6da15aa8d6c", func := "aquifer/aquiferlaw16.FamilyNamed", spec := "familyNamed", inPlace := ["internal/bytealg.IndexByteString", "internal/bytealg.IndexString"], unfollowed := true, recurses := true, named := ["internal/bytealg.MaxLen"], plainKeys := false, apart := false }
def FamilyNamedSaid : Prop := familyNamedRow.holds Try.pinned (OpenSpec.ofChange familyNamedSpec)

/-- ITS FALSE NEIGHBOUR: 'it returns false'. Refute it at one input. -/
def familyNamedWrong : ChangeSpec := { name := "familyNamed", fn := fun _ => fun
  | [d] => { results := [.lit (.bool false)], args := [d] }
  | _ => none }
def FamilyNamedWrongFalsely : Prop := familyNamedRow.holds Try.pinned (OpenSpec.ofChange familyNamedWrong)

/-- 'aquiferlaw16.FamilyTells': WHATEVER THE INPUT: true; the input reads as it did. -/
def familyTellsSpec : ChangeSpec := { name := "familyTells", fn := fun _ => fun
  | [d1, d2, d3] => { results := [.lit (.bool true)], args := [d1, d2, d3] }
  | _ => none }
def familyTellsRow : OpenClaim := { program := "yteblpmcekhcgiab", sum := "ee3bf9d4544219348ce58e1cc9bcf2282a1ed7450d41574fd932b6da15aa8d6c", func := "aquifer/aquiferlaw16.FamilyTells", spec := "familyTells", inPlace := ["internal/bytealg.IndexByteString", "internal/bytealg.IndexString"], unfollowed := true, recurses := true, named := ["internal/bytealg.MaxLen"], plainKeys := false, apart := false }
def FamilyTellsSaid : Prop := familyTellsRow.holds Try.pinned (OpenSpec.ofChange familyTellsSpec)

/-- ITS FALSE NEIGHBOUR: 'it returns false'. Refute it at one input. -/
def familyTellsWrong : ChangeSpec := { name := "familyTells", fn := fun _ => fun
  | [d1, d2, d3] => { results := [.lit (.bool false)], args := [d1, d2, d3] }
  | _ => none }
def FamilyTellsWrongFalsely : Prop := familyTellsRow.holds Try.pinned (OpenSpec.ofChange familyTellsWrong)

/-- 'aquiferlaw11.TreeHolds': WHATEVER THE INPUT: true; the input reads as it did. -/
def treeHoldsSpec : ChangeSpec := { name := "treeHolds", fn := fun _ => fun
  | [d1, d2] => { results := [.lit (.bool true)], args := [d1, d2] }
  | _ => none }
def treeHoldsRow : OpenClaim := { program := "yteblpmcekhcgiab", sum := "ee3bf9d4544219348ce58e1cc9bcf2282a1ed7450d41574fd932b6da15aa8d6c", func := "aquifer/aquiferlaw11.TreeHolds", spec := "treeHolds", plainKeys := false, apart := false }
def TreeHoldsSaid : Prop := treeHoldsRow.holds Try.pinned (OpenSpec.ofChange treeHoldsSpec)

/-- ITS FALSE NEIGHBOUR: 'it returns false'. Refute it at one input. -/
def treeHoldsWrong : ChangeSpec := { name := "treeHolds", fn := fun _ => fun
  | [d1, d2] => { results := [.lit (.bool false)], args := [d1, d2] }
  | _ => none }
def TreeHoldsWrongFalsely : Prop := treeHoldsRow.holds Try.pinned (OpenSpec.ofChange treeHoldsWrong)

/- THE SECOND FORM. 'bulk': how many values and letters a reading holds, each counted each time it is reached (what is shared counts as often as it is met; a slice's spare places count too). A statement '..UptoSaid' is the law's where the arguments, and the package variables that the reading takes, are together of bulk at most 1048576: NARROWER than '..Said'. Prove '..Said' where nothing that the law and all that it calls make is longer than what came in: it says more and counts as full. Else prove '..UptoSaid'. A law counts once. -/
mutual
def uptoBulk {H : Type} : DataW H → Nat
  | .lit (.string bytes) => bytes.length + 1
  | .lit _ => 1
  | .nil => 1
  | .ptr d => uptoBulk d + 1
  | .slice elems spare => uptoBulkAll elems + uptoBulkAll spare + 1
  | .agg parts => uptoBulkAll parts + 1
  | .iface _ d => uptoBulk d + 1
  | .map entries => uptoBulkEntries entries + 1
  | .held _ => 1
def uptoBulkAll {H : Type} : List (DataW H) → Nat
  | [] => 0
  | d :: r => uptoBulk d + uptoBulkAll r
def uptoBulkEntries {H : Type} : List (Lit × DataW H) → Nat
  | [] => 0
  | x :: r => uptoBulkEntry x + uptoBulkEntries r
def uptoBulkEntry {H : Type} : Lit × DataW H → Nat
  | (.string bytes, d) => bytes.length + uptoBulk d + 1
  | (_, d) => uptoBulk d + 1
 end
def uptoSmall : (H : Type) → List (DataW H) → Bool := fun _ ds => decide (uptoBulkAll ds ≤ 1048576)
def OpenSpec.upto (s : _root_.Go.ChangeSpec) : _root_.Go.OpenSpec := { _root_.Go.OpenSpec.ofChange s with cond := some uptoSmall }

/-- 'aquiferlaw16.FamilyFloors', WHERE WHAT IT READS IS OF BULK AT MOST 1048576: true; the input reads as it did. -/
def familyFloorsUptoRow : OpenClaim := { program := "yteblpmcekhcgiab", sum := "ee3bf9d4544219348ce58e1cc9bcf2282a1ed7450d41574fd932b6da15aa8d6c", func := "aquifer/aquiferlaw16.FamilyFloors", spec := "familyFloors", inPlace := ["internal/bytealg.IndexByteString", "internal/bytealg.IndexString"], unfollowed := true, recurses := true, named := ["internal/bytealg.MaxLen"], plainKeys := false, apart := false, narrowed := true }
def FamilyFloorsUptoSaid : Prop := familyFloorsUptoRow.holds Try.pinned (OpenSpec.upto familyFloorsSpec)

/-- 'aquiferlaw16.FamilyNamed', WHERE WHAT IT READS IS OF BULK AT MOST 1048576: true; the input reads as it did. -/
def familyNamedUptoRow : OpenClaim := { program := "yteblpmcekhcgiab", sum := "ee3bf9d4544219348ce58e1cc9bcf2282a1ed7450d41574fd932b6da15aa8d6c", func := "aquifer/aquiferlaw16.FamilyNamed", spec := "familyNamed", inPlace := ["internal/bytealg.IndexByteString", "internal/bytealg.IndexString"], unfollowed := true, recurses := true, named := ["internal/bytealg.MaxLen"], plainKeys := false, apart := false, narrowed := true }
def FamilyNamedUptoSaid : Prop := familyNamedUptoRow.holds Try.pinned (OpenSpec.upto familyNamedSpec)

/-- 'aquiferlaw16.FamilyTells', WHERE WHAT IT READS IS OF BULK AT MOST 1048576: true; the input reads as it did. -/
def familyTellsUptoRow : OpenClaim := { program := "yteblpmcekhcgiab", sum := "ee3bf9d4544219348ce58e1cc9bcf2282a1ed7450d41574fd932b6da15aa8d6c", func := "aquifer/aquiferlaw16.FamilyTells", spec := "familyTells", inPlace := ["internal/bytealg.IndexByteString", "internal/bytealg.IndexString"], unfollowed := true, recurses := true, named := ["internal/bytealg.MaxLen"], plainKeys := false, apart := false, narrowed := true }
def FamilyTellsUptoSaid : Prop := familyTellsUptoRow.holds Try.pinned (OpenSpec.upto familyTellsSpec)

/-- 'aquiferlaw11.TreeHolds', WHERE WHAT IT READS IS OF BULK AT MOST 1048576: true; the input reads as it did. -/
def treeHoldsUptoRow : OpenClaim := { program := "yteblpmcekhcgiab", sum := "ee3bf9d4544219348ce58e1cc9bcf2282a1ed7450d41574fd932b6da15aa8d6c", func := "aquifer/aquiferlaw11.TreeHolds", spec := "treeHolds", plainKeys := false, apart := false, narrowed := true }
def TreeHoldsUptoSaid : Prop := treeHoldsUptoRow.holds Try.pinned (OpenSpec.upto treeHoldsSpec)

end Rows
end Go.Proofs.Yteblpmcekhcgiab
