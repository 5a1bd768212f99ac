/-
  No cell of these rows narrows 'for every input' (looked for: loops, veiled, ifaces, maps, wideKeys, modest, calm, conditions, laid).
  DERIVED. THE GIVEN ROWS OF THIS SEAT. 4 by the template 'for every input the law returns true; each argument reads behind the call as it read before'; 0 by the template 'total and deterministic' (their statements: YteblpmcekhcgiacTotals.lean).
  GIVEN WITH THE SEED: the statements are not yours to turn. If you find one false, say at which input.
  Laid BY PROGRAM, IN A SANDBOX (cutbox-rows.mjs): the forced cells as the released guide's own fill.sh prints them over the translation b79a91f8486607b5… (all of the seat's roots in one cut). By AI agents, Wed Nov 11 2026. No macro, syntax, notation, axiom, sorry.
-/
import Derived.Test.YteblpmcekhcgiacChecked
import GoSem.Claim
import GoSem.ClaimJoined
import GoSem.ClaimMapViews
import Derived.JoinedTies
import Derived.KernelRfl
namespace Go.Proofs.Yteblpmcekhcgiac
/- THE CELL 'sum', in the pinned program and in every row, IS THE sha256 OF THE DUMP (.gsa) THAT YteblpmcekhcgiacProg.lean LOADS. Nothing in Lean hashes anything: it is a label: what it is worth is what the hold of that sum in a sandbox is worth. -/
noncomputable def Try.pinned : Pinned := { name := "yteblpmcekhcgiac", sum := "b79a91f8486607b5c30ab62245de72976ec80394a22c48ec6ea3d60d7ec2b789", checked := Try.checked }
namespace Rows
def none {H : Type} : Left H := { results := [], args := [] }

/-- 'aquiferlaw11.TreeTrims': WHATEVER THE INPUT: true; the input reads as it did. -/
def treeTrimsSpec : ChangeSpec := { name := "treeTrims", fn := fun _ => fun
  | [d1, d2] => { results := [.lit (.bool true)], args := [d1, d2] }
  | _ => none }
def treeTrimsRow : OpenClaim := { program := "yteblpmcekhcgiac", sum := "b79a91f8486607b5c30ab62245de72976ec80394a22c48ec6ea3d60d7ec2b789", func := "aquifer/aquiferlaw11.TreeTrims", spec := "treeTrims", apart := false }
def TreeTrimsSaid : Prop := treeTrimsRow.holds Try.pinned (OpenSpec.ofChange treeTrimsSpec)

/-- ITS FALSE NEIGHBOUR: 'it returns false'. Refute it at one input. -/
def treeTrimsWrong : ChangeSpec := { name := "treeTrims", fn := fun _ => fun
  | [d1, d2] => { results := [.lit (.bool false)], args := [d1, d2] }
  | _ => none }
def TreeTrimsWrongFalsely : Prop := treeTrimsRow.holds Try.pinned (OpenSpec.ofChange treeTrimsWrong)

/-- 'aquiferlaw11.TreeSince': WHATEVER THE INPUT: true; the input reads as it did. -/
def treeSinceSpec : ChangeSpec := { name := "treeSince", fn := fun _ => fun
  | [d1, d2, d3] => { results := [.lit (.bool true)], args := [d1, d2, d3] }
  | _ => none }
def treeSinceRow : OpenClaim := { program := "yteblpmcekhcgiac", sum := "b79a91f8486607b5c30ab62245de72976ec80394a22c48ec6ea3d60d7ec2b789", func := "aquifer/aquiferlaw11.TreeSince", spec := "treeSince", apart := false }
def TreeSinceSaid : Prop := treeSinceRow.holds Try.pinned (OpenSpec.ofChange treeSinceSpec)

/-- ITS FALSE NEIGHBOUR: 'it returns false'. Refute it at one input. -/
def treeSinceWrong : ChangeSpec := { name := "treeSince", fn := fun _ => fun
  | [d1, d2, d3] => { results := [.lit (.bool false)], args := [d1, d2, d3] }
  | _ => none }
def TreeSinceWrongFalsely : Prop := treeSinceRow.holds Try.pinned (OpenSpec.ofChange treeSinceWrong)

/-- 'aquiferlaw11.TreeTold': WHATEVER THE INPUT: true; the input reads as it did. -/
def treeToldSpec : ChangeSpec := { name := "treeTold", fn := fun _ => fun
  | [d1, d2] => { results := [.lit (.bool true)], args := [d1, d2] }
  | _ => none }
def treeToldRow : OpenClaim := { program := "yteblpmcekhcgiac", sum := "b79a91f8486607b5c30ab62245de72976ec80394a22c48ec6ea3d60d7ec2b789", func := "aquifer/aquiferlaw11.TreeTold", spec := "treeTold", apart := false }
def TreeToldSaid : Prop := treeToldRow.holds Try.pinned (OpenSpec.ofChange treeToldSpec)

/-- ITS FALSE NEIGHBOUR: 'it returns false'. Refute it at one input. -/
def treeToldWrong : ChangeSpec := { name := "treeTold", fn := fun _ => fun
  | [d1, d2] => { results := [.lit (.bool false)], args := [d1, d2] }
  | _ => none }
def TreeToldWrongFalsely : Prop := treeToldRow.holds Try.pinned (OpenSpec.ofChange treeToldWrong)

/-- 'aquiferlaw12.BlobNeeds': WHATEVER THE INPUT: true; the input reads as it did. -/
def blobNeedsSpec : ChangeSpec := { name := "blobNeeds", fn := fun _ => fun
  | [d] => { results := [.lit (.bool true)], args := [d] }
  | _ => none }
def blobNeedsRow : OpenClaim := { program := "yteblpmcekhcgiac", sum := "b79a91f8486607b5c30ab62245de72976ec80394a22c48ec6ea3d60d7ec2b789", func := "aquifer/aquiferlaw12.BlobNeeds", spec := "blobNeeds", unfollowed := true, recurses := true, apart := false }
def BlobNeedsSaid : Prop := blobNeedsRow.holds Try.pinned (OpenSpec.ofChange blobNeedsSpec)

/-- ITS FALSE NEIGHBOUR: 'it returns false'. Refute it at one input. -/
def blobNeedsWrong : ChangeSpec := { name := "blobNeeds", fn := fun _ => fun
  | [d] => { results := [.lit (.bool false)], args := [d] }
  | _ => none }
def BlobNeedsWrongFalsely : Prop := blobNeedsRow.holds Try.pinned (OpenSpec.ofChange blobNeedsWrong)

/- THE SECOND FORM. 'bulk': how many values and letters a reading holds, each counted each time it is reached (what is shared counts as often as it is met; a slice's spare places count too). A statement '..UptoSaid' is the law's where the arguments, and the package variables that the reading takes, are together of bulk at most 1048576: NARROWER than '..Said'. Prove '..Said' where nothing that the law and all that it calls make is longer than what came in: it says more and counts as full. Else prove '..UptoSaid'. A law counts once. -/
mutual
def uptoBulk {H : Type} : DataW H → Nat
  | .lit (.string bytes) => bytes.length + 1
  | .lit _ => 1
  | .nil => 1
  | .ptr d => uptoBulk d + 1
  | .slice elems spare => uptoBulkAll elems + uptoBulkAll spare + 1
  | .agg parts => uptoBulkAll parts + 1
  | .iface _ d => uptoBulk d + 1
  | .map entries => uptoBulkEntries entries + 1
  | .held _ => 1
def uptoBulkAll {H : Type} : List (DataW H) → Nat
  | [] => 0
  | d :: r => uptoBulk d + uptoBulkAll r
def uptoBulkEntries {H : Type} : List (Lit × DataW H) → Nat
  | [] => 0
  | x :: r => uptoBulkEntry x + uptoBulkEntries r
def uptoBulkEntry {H : Type} : Lit × DataW H → Nat
  | (.string bytes, d) => bytes.length + uptoBulk d + 1
  | (_, d) => uptoBulk d + 1
 end
def uptoSmall : (H : Type) → List (DataW H) → Bool := fun _ ds => decide (uptoBulkAll ds ≤ 1048576)
def OpenSpec.upto (s : _root_.Go.ChangeSpec) : _root_.Go.OpenSpec := { _root_.Go.OpenSpec.ofChange s with cond := some uptoSmall }

/-- 'aquiferlaw11.TreeTrims', WHERE WHAT IT READS IS OF BULK AT MOST 1048576: true; the input reads as it did. -/
def treeTrimsUptoRow : OpenClaim := { program := "yteblpmcekhcgiac", sum := "b79a91f8486607b5c30ab62245de72976ec80394a22c48ec6ea3d60d7ec2b789", func := "aquifer/aquiferlaw11.TreeTrims", spec := "treeTrims", apart := false, narrowed := true }
def TreeTrimsUptoSaid : Prop := treeTrimsUptoRow.holds Try.pinned (OpenSpec.upto treeTrimsSpec)

/-- 'aquiferlaw11.TreeSince', WHERE WHAT IT READS IS OF BULK AT MOST 1048576: true; the input reads as it did. -/
def treeSinceUptoRow : OpenClaim := { program := "yteblpmcekhcgiac", sum := "b79a91f8486607b5c30ab62245de72976ec80394a22c48ec6ea3d60d7ec2b789", func := "aquifer/aquiferlaw11.TreeSince", spec := "treeSince", apart := false, narrowed := true }
def TreeSinceUptoSaid : Prop := treeSinceUptoRow.holds Try.pinned (OpenSpec.upto treeSinceSpec)

/-- 'aquiferlaw11.TreeTold', WHERE WHAT IT READS IS OF BULK AT MOST 1048576: true; the input reads as it did. -/
def treeToldUptoRow : OpenClaim := { program := "yteblpmcekhcgiac", sum := "b79a91f8486607b5c30ab62245de72976ec80394a22c48ec6ea3d60d7ec2b789", func := "aquifer/aquiferlaw11.TreeTold", spec := "treeTold", apart := false, narrowed := true }
def TreeToldUptoSaid : Prop := treeToldUptoRow.holds Try.pinned (OpenSpec.upto treeToldSpec)

/-- 'aquiferlaw12.BlobNeeds', WHERE WHAT IT READS IS OF BULK AT MOST 1048576: true; the input reads as it did. -/
def blobNeedsUptoRow : OpenClaim := { program := "yteblpmcekhcgiac", sum := "b79a91f8486607b5c30ab62245de72976ec80394a22c48ec6ea3d60d7ec2b789", func := "aquifer/aquiferlaw12.BlobNeeds", spec := "blobNeeds", unfollowed := true, recurses := true, apart := false, narrowed := true }
def BlobNeedsUptoSaid : Prop := blobNeedsUptoRow.holds Try.pinned (OpenSpec.upto blobNeedsSpec)

end Rows
end Go.Proofs.Yteblpmcekhcgiac
