/-
  No cell of these rows narrows 'for every input' (looked for: loops, veiled, ifaces, maps, wideKeys, modest, calm, conditions, laid).
  DERIVED. THE GIVEN ROWS OF THIS SEAT. 8 by the template 'for every input the law returns true; each argument reads behind the call as it read before'; 0 by the template 'total and deterministic' (their statements: YtibgmhipepaeaaaTotals.lean).
  GIVEN WITH THE SEED: the statements are not yours to turn. If you find one false, say at which input.
  Laid BY PROGRAM, IN A SANDBOX (cutbox-rows.mjs): the forced cells as the released guide's own fill.sh prints them over the translation 818b7a1af68c9f9b… (all of the seat's roots in one cut). By AI agents, Wed Nov 11 2026. No macro, syntax, notation, axiom, sorry.
-/
import Derived.Test.YtibgmhipepaeaaaChecked
import GoSem.Claim
import GoSem.ClaimJoined
import GoSem.ClaimMapViews
import Derived.JoinedTies
import Derived.KernelRfl
namespace Go.Proofs.Ytibgmhipepaeaaa
/- THE CELL 'sum', in the pinned program and in every row, IS THE sha256 OF THE DUMP (.gsa) THAT YtibgmhipepaeaaaProg.lean LOADS. Nothing in Lean hashes anything: it is a label: what it is worth is what the hold of that sum in a sandbox is worth. -/
noncomputable def Try.pinned : Pinned := { name := "ytibgmhipepaeaaa", sum := "818b7a1af68c9f9b41f71b6e39c04648ec28fa3738cbb50a7821e9404b0f009d", checked := Try.checked }
namespace Rows
def none {H : Type} : Left H := { results := [], args := [] }

/-- 'aquiferlaw16.FamilyNames': WHATEVER THE INPUT: true; the input reads as it did. -/
def familyNamesSpec : ChangeSpec := { name := "familyNames", fn := fun _ => fun
  | [] => { results := [.lit (.bool true)], args := [] }
  | _ => none }
def familyNamesRow : OpenClaim := { program := "ytibgmhipepaeaaa", sum := "818b7a1af68c9f9b41f71b6e39c04648ec28fa3738cbb50a7821e9404b0f009d", func := "aquifer/aquiferlaw16.FamilyNames", spec := "familyNames", inPlace := ["internal/bytealg.IndexByteString", "internal/bytealg.IndexString"], unfollowed := true, recurses := true, named := ["internal/bytealg.MaxLen"], plainKeys := false, apart := false }
def FamilyNamesSaid : Prop := familyNamesRow.holds Try.pinned (OpenSpec.ofChange familyNamesSpec)

/-- ITS FALSE NEIGHBOUR: 'it returns false'. Refute it at one input. -/
def familyNamesWrong : ChangeSpec := { name := "familyNames", fn := fun _ => fun
  | [] => { results := [.lit (.bool false)], args := [] }
  | _ => none }
def FamilyNamesWrongFalsely : Prop := familyNamesRow.holds Try.pinned (OpenSpec.ofChange familyNamesWrong)

/-- 'aquiferlaw17.RuleNames': WHATEVER THE INPUT: true; the input reads as it did. -/
def ruleNamesSpec : ChangeSpec := { name := "ruleNames", fn := fun _ => fun
  | [] => { results := [.lit (.bool true)], args := [] }
  | _ => none }
def ruleNamesRow : OpenClaim := { program := "ytibgmhipepaeaaa", sum := "818b7a1af68c9f9b41f71b6e39c04648ec28fa3738cbb50a7821e9404b0f009d", func := "aquifer/aquiferlaw17.RuleNames", spec := "ruleNames", inPlace := ["internal/bytealg.IndexByteString", "internal/bytealg.IndexString"], unfollowed := true, recurses := true, named := ["internal/bytealg.MaxLen"], plainKeys := false, apart := false }
def RuleNamesSaid : Prop := ruleNamesRow.holds Try.pinned (OpenSpec.ofChange ruleNamesSpec)

/-- ITS FALSE NEIGHBOUR: 'it returns false'. Refute it at one input. -/
def ruleNamesWrong : ChangeSpec := { name := "ruleNames", fn := fun _ => fun
  | [] => { results := [.lit (.bool false)], args := [] }
  | _ => none }
def RuleNamesWrongFalsely : Prop := ruleNamesRow.holds Try.pinned (OpenSpec.ofChange ruleNamesWrong)

/-- 'aquiferlaw16.FamilyClones': WHATEVER THE INPUT: true; the input reads as it did. -/
def familyClonesSpec : ChangeSpec := { name := "familyClones", fn := fun _ => fun
  | [d] => { results := [.lit (.bool true)], args := [d] }
  | _ => none }
def familyClonesRow : OpenClaim := { program := "ytibgmhipepaeaaa", sum := "818b7a1af68c9f9b41f71b6e39c04648ec28fa3738cbb50a7821e9404b0f009d", func := "aquifer/aquiferlaw16.FamilyClones", spec := "familyClones", inPlace := ["internal/bytealg.IndexByteString", "internal/bytealg.IndexString"], unfollowed := true, recurses := true, named := ["internal/bytealg.MaxLen"], plainKeys := false, apart := false }
def FamilyClonesSaid : Prop := familyClonesRow.holds Try.pinned (OpenSpec.ofChange familyClonesSpec)

/-- ITS FALSE NEIGHBOUR: 'it returns false'. Refute it at one input. -/
def familyClonesWrong : ChangeSpec := { name := "familyClones", fn := fun _ => fun
  | [d] => { results := [.lit (.bool false)], args := [d] }
  | _ => none }
def FamilyClonesWrongFalsely : Prop := familyClonesRow.holds Try.pinned (OpenSpec.ofChange familyClonesWrong)

/-- 'aquiferlaw16.FamilyFloors': WHATEVER THE INPUT: true; the input reads as it did. -/
def familyFloorsSpec : ChangeSpec := { name := "familyFloors", fn := fun _ => fun
  | [d] => { results := [.lit (.bool true)], args := [d] }
  | _ => none }
def familyFloorsRow : OpenClaim := { program := "ytibgmhipepaeaaa", sum := "818b7a1af68c9f9b41f71b6e39c04648ec28fa3738cbb50a7821e9404b0f009d", func := "aquifer/aquiferlaw16.FamilyFloors", spec := "familyFloors", inPlace := ["internal/bytealg.IndexByteString", "internal/bytealg.IndexString"], unfollowed := true, recurses := true, named := ["internal/bytealg.MaxLen"], plainKeys := false, apart := false }
def FamilyFloorsSaid : Prop := familyFloorsRow.holds Try.pinned (OpenSpec.ofChange familyFloorsSpec)

/-- ITS FALSE NEIGHBOUR: 'it returns false'. Refute it at one input. -/
def familyFloorsWrong : ChangeSpec := { name := "familyFloors", fn := fun _ => fun
  | [d] => { results := [.lit (.bool false)], args := [d] }
  | _ => none }
def FamilyFloorsWrongFalsely : Prop := familyFloorsRow.holds Try.pinned (OpenSpec.ofChange familyFloorsWrong)

/-- 'aquiferlaw16.FamilyNamed': WHATEVER THE INPUT: true; the input reads as it did. -/
def familyNamedSpec : ChangeSpec := { name := "familyNamed", fn := fun _ => fun
  | [d] => { results := [.lit (.bool true)], args := [d] }
  | _ => none }
def familyNamedRow : OpenClaim := { program := "ytibgmhipepaeaaa", sum := "818b7a1af68c9f9b41f71b6e39c04648ec28fa3738cbb50a7821e9404b0f009d", func := "aquifer/aquiferlaw16.FamilyNamed", spec := "familyNamed", inPlace := ["internal/bytealg.IndexByteString", "internal/bytealg.IndexString"], unfollowed := true, recurses := true, named := ["internal/bytealg.MaxLen"], plainKeys := false, apart := false }
def FamilyNamedSaid : Prop := familyNamedRow.holds Try.pinned (OpenSpec.ofChange familyNamedSpec)

/-- ITS FALSE NEIGHBOUR: 'it returns false'. Refute it at one input. -/
def familyNamedWrong : ChangeSpec := { name := "familyNamed", fn := fun _ => fun
  | [d] => { results := [.lit (.bool false)], args := [d] }
  | _ => none }
def FamilyNamedWrongFalsely : Prop := familyNamedRow.holds Try.pinned (OpenSpec.ofChange familyNamedWrong)

/-- 'aquiferlaw16.FamilyTells': WHATEVER THE INPUT: true; the input reads as it did. -/
def familyTellsSpec : ChangeSpec := { name := "familyTells", fn := fun _ => fun
  | [d1, d2, d3] => { results := [.lit (.bool true)], args := [d1, d2, d3] }
  | _ => none }
def familyTellsRow : OpenClaim := { program := "ytibgmhipepaeaaa", sum := "818b7a1af68c9f9b41f71b6e39c04648ec28fa3738cbb50a7821e9404b0f009d", func := "aquifer/aquiferlaw16.FamilyTells", spec := "familyTells", inPlace := ["internal/bytealg.IndexByteString", "internal/bytealg.IndexString"], unfollowed := true, recurses := true, named := ["internal/bytealg.MaxLen"], plainKeys := false, apart := false }
def FamilyTellsSaid : Prop := familyTellsRow.holds Try.pinned (OpenSpec.ofChange familyTellsSpec)

/-- ITS FALSE NEIGHBOUR: 'it returns false'. Refute it at one input. -/
def familyTellsWrong : ChangeSpec := { name := "familyTells", fn := fun _ => fun
  | [d1, d2, d3] => { results := [.lit (.bool false)], args := [d1, d2, d3] }
  | _ => none }
def FamilyTellsWrongFalsely : Prop := familyTellsRow.holds Try.pinned (OpenSpec.ofChange familyTellsWrong)

/-- 'aquiferlaw17.RuleDoes': WHATEVER THE INPUT: true; the input reads as it did. -/
def ruleDoesSpec : ChangeSpec := { name := "ruleDoes", fn := fun _ => fun
  | [d1, d2] => { results := [.lit (.bool true)], args := [d1, d2] }
  | _ => none }
def ruleDoesRow : OpenClaim := { program := "ytibgmhipepaeaaa", sum := "818b7a1af68c9f9b41f71b6e39c04648ec28fa3738cbb50a7821e9404b0f009d", func := "aquifer/aquiferlaw17.RuleDoes", spec := "ruleDoes", inPlace := ["internal/bytealg.IndexByteString", "internal/bytealg.IndexString"], unfollowed := true, recurses := true, named := ["internal/bytealg.MaxLen"], plainKeys := false, apart := false }
def RuleDoesSaid : Prop := ruleDoesRow.holds Try.pinned (OpenSpec.ofChange ruleDoesSpec)

/-- ITS FALSE NEIGHBOUR: 'it returns false'. Refute it at one input. -/
def ruleDoesWrong : ChangeSpec := { name := "ruleDoes", fn := fun _ => fun
  | [d1, d2] => { results := [.lit (.bool false)], args := [d1, d2] }
  | _ => none }
def RuleDoesWrongFalsely : Prop := ruleDoesRow.holds Try.pinned (OpenSpec.ofChange ruleDoesWrong)

/-- 'aquiferlaw17.RuleRuns': WHATEVER THE INPUT: true; the input reads as it did. -/
def ruleRunsSpec : ChangeSpec := { name := "ruleRuns", fn := fun _ => fun
  | [d] => { results := [.lit (.bool true)], args := [d] }
  | _ => none }
def ruleRunsRow : OpenClaim := { program := "ytibgmhipepaeaaa", sum := "818b7a1af68c9f9b41f71b6e39c04648ec28fa3738cbb50a7821e9404b0f009d", func := "aquifer/aquiferlaw17.RuleRuns", spec := "ruleRuns", inPlace := ["internal/bytealg.IndexByteString", "internal/bytealg.IndexString"], unfollowed := true, recurses := true, named := ["internal/bytealg.MaxLen"], plainKeys := false, apart := false }
def RuleRunsSaid : Prop := ruleRunsRow.holds Try.pinned (OpenSpec.ofChange ruleRunsSpec)

/-- ITS FALSE NEIGHBOUR: 'it returns false'. Refute it at one input. -/
def ruleRunsWrong : ChangeSpec := { name := "ruleRuns", fn := fun _ => fun
  | [d] => { results := [.lit (.bool false)], args := [d] }
  | _ => none }
def RuleRunsWrongFalsely : Prop := ruleRunsRow.holds Try.pinned (OpenSpec.ofChange ruleRunsWrong)

/- THE SECOND FORM. 'bulk': how many values and letters a reading holds, each counted each time it is reached (what is shared counts as often as it is met; a slice's spare places count too). A statement '..UptoSaid' is the law's where the arguments, and the package variables that the reading takes, are together of bulk at most 1048576: NARROWER than '..Said'. Prove '..Said' where nothing that the law and all that it calls make is longer than what came in: it says more and counts as full. Else prove '..UptoSaid'. A law counts once. -/
mutual
def uptoBulk {H : Type} : DataW H → Nat
  | .lit (.string bytes) => bytes.length + 1
  | .lit _ => 1
  | .nil => 1
  | .ptr d => uptoBulk d + 1
  | .slice elems spare => uptoBulkAll elems + uptoBulkAll spare + 1
  | .agg parts => uptoBulkAll parts + 1
  | .iface _ d => uptoBulk d + 1
  | .map entries => uptoBulkEntries entries + 1
  | .held _ => 1
def uptoBulkAll {H : Type} : List (DataW H) → Nat
  | [] => 0
  | d :: r => uptoBulk d + uptoBulkAll r
def uptoBulkEntries {H : Type} : List (Lit × DataW H) → Nat
  | [] => 0
  | x :: r => uptoBulkEntry x + uptoBulkEntries r
def uptoBulkEntry {H : Type} : Lit × DataW H → Nat
  | (.string bytes, d) => bytes.length + uptoBulk d + 1
  | (_, d) => uptoBulk d + 1
 end
def uptoSmall : (H : Type) → List (DataW H) → Bool := fun _ ds => decide (uptoBulkAll ds ≤ 1048576)
def OpenSpec.upto (s : _root_.Go.ChangeSpec) : _root_.Go.OpenSpec := { _root_.Go.OpenSpec.ofChange s with cond := some uptoSmall }

/-- 'aquiferlaw16.FamilyNames', WHERE WHAT IT READS IS OF BULK AT MOST 1048576: true; the input reads as it did. -/
def familyNamesUptoRow : OpenClaim := { program := "ytibgmhipepaeaaa", sum := "818b7a1af68c9f9b41f71b6e39c04648ec28fa3738cbb50a7821e9404b0f009d", func := "aquifer/aquiferlaw16.FamilyNames", spec := "familyNames", inPlace := ["internal/bytealg.IndexByteString", "internal/bytealg.IndexString"], unfollowed := true, recurses := true, named := ["internal/bytealg.MaxLen"], plainKeys := false, apart := false, narrowed := true }
def FamilyNamesUptoSaid : Prop := familyNamesUptoRow.holds Try.pinned (OpenSpec.upto familyNamesSpec)

/-- 'aquiferlaw17.RuleNames', WHERE WHAT IT READS IS OF BULK AT MOST 1048576: true; the input reads as it did. -/
def ruleNamesUptoRow : OpenClaim := { program := "ytibgmhipepaeaaa", sum := "818b7a1af68c9f9b41f71b6e39c04648ec28fa3738cbb50a7821e9404b0f009d", func := "aquifer/aquiferlaw17.RuleNames", spec := "ruleNames", inPlace := ["internal/bytealg.IndexByteString", "internal/bytealg.IndexString"], unfollowed := true, recurses := true, named := ["internal/bytealg.MaxLen"], plainKeys := false, apart := false, narrowed := true }
def RuleNamesUptoSaid : Prop := ruleNamesUptoRow.holds Try.pinned (OpenSpec.upto ruleNamesSpec)

/-- 'aquiferlaw16.FamilyClones', WHERE WHAT IT READS IS OF BULK AT MOST 1048576: true; the input reads as it did. -/
def familyClonesUptoRow : OpenClaim := { program := "ytibgmhipepaeaaa", sum := "818b7a1af68c9f9b41f71b6e39c04648ec28fa3738cbb50a7821e9404b0f009d", func := "aquifer/aquiferlaw16.FamilyClones", spec := "familyClones", inPlace := ["internal/bytealg.IndexByteString", "internal/bytealg.IndexString"], unfollowed := true, recurses := true, named := ["internal/bytealg.MaxLen"], plainKeys := false, apart := false, narrowed := true }
def FamilyClonesUptoSaid : Prop := familyClonesUptoRow.holds Try.pinned (OpenSpec.upto familyClonesSpec)

/-- 'aquiferlaw16.FamilyFloors', WHERE WHAT IT READS IS OF BULK AT MOST 1048576: true; the input reads as it did. -/
def familyFloorsUptoRow : OpenClaim := { program := "ytibgmhipepaeaaa", sum := "818b7a1af68c9f9b41f71b6e39c04648ec28fa3738cbb50a7821e9404b0f009d", func := "aquifer/aquiferlaw16.FamilyFloors", spec := "familyFloors", inPlace := ["internal/bytealg.IndexByteString", "internal/bytealg.IndexString"], unfollowed := true, recurses := true, named := ["internal/bytealg.MaxLen"], plainKeys := false, apart := false, narrowed := true }
def FamilyFloorsUptoSaid : Prop := familyFloorsUptoRow.holds Try.pinned (OpenSpec.upto familyFloorsSpec)

/-- 'aquiferlaw16.FamilyNamed', WHERE WHAT IT READS IS OF BULK AT MOST 1048576: true; the input reads as it did. -/
def familyNamedUptoRow : OpenClaim := { program := "ytibgmhipepaeaaa", sum := "818b7a1af68c9f9b41f71b6e39c04648ec28fa3738cbb50a7821e9404b0f009d", func := "aquifer/aquiferlaw16.FamilyNamed", spec := "familyNamed", inPlace := ["internal/bytealg.IndexByteString", "internal/bytealg.IndexString"], unfollowed := true, recurses := true, named := ["internal/bytealg.MaxLen"], plainKeys := false, apart := false, narrowed := true }
def FamilyNamedUptoSaid : Prop := familyNamedUptoRow.holds Try.pinned (OpenSpec.upto familyNamedSpec)

/-- 'aquiferlaw16.FamilyTells', WHERE WHAT IT READS IS OF BULK AT MOST 1048576: true; the input reads as it did. -/
def familyTellsUptoRow : OpenClaim := { program := "ytibgmhipepaeaaa", sum := "818b7a1af68c9f9b41f71b6e39c04648ec28fa3738cbb50a7821e9404b0f009d", func := "aquifer/aquiferlaw16.FamilyTells", spec := "familyTells", inPlace := ["internal/bytealg.IndexByteString", "internal/bytealg.IndexString"], unfollowed := true, recurses := true, named := ["internal/bytealg.MaxLen"], plainKeys := false, apart := false, narrowed := true }
def FamilyTellsUptoSaid : Prop := familyTellsUptoRow.holds Try.pinned (OpenSpec.upto familyTellsSpec)

/-- 'aquiferlaw17.RuleDoes', WHERE WHAT IT READS IS OF BULK AT MOST 1048576: true; the input reads as it did. -/
def ruleDoesUptoRow : OpenClaim := { program := "ytibgmhipepaeaaa", sum := "818b7a1af68c9f9b41f71b6e39c04648ec28fa3738cbb50a7821e9404b0f009d", func := "aquifer/aquiferlaw17.RuleDoes", spec := "ruleDoes", inPlace := ["internal/bytealg.IndexByteString", "internal/bytealg.IndexString"], unfollowed := true, recurses := true, named := ["internal/bytealg.MaxLen"], plainKeys := false, apart := false, narrowed := true }
def RuleDoesUptoSaid : Prop := ruleDoesUptoRow.holds Try.pinned (OpenSpec.upto ruleDoesSpec)

/-- 'aquiferlaw17.RuleRuns', WHERE WHAT IT READS IS OF BULK AT MOST 1048576: true; the input reads as it did. -/
def ruleRunsUptoRow : OpenClaim := { program := "ytibgmhipepaeaaa", sum := "818b7a1af68c9f9b41f71b6e39c04648ec28fa3738cbb50a7821e9404b0f009d", func := "aquifer/aquiferlaw17.RuleRuns", spec := "ruleRuns", inPlace := ["internal/bytealg.IndexByteString", "internal/bytealg.IndexString"], unfollowed := true, recurses := true, named := ["internal/bytealg.MaxLen"], plainKeys := false, apart := false, narrowed := true }
def RuleRunsUptoSaid : Prop := ruleRunsUptoRow.holds Try.pinned (OpenSpec.upto ruleRunsSpec)

end Rows
end Go.Proofs.Ytibgmhipepaeaaa
