/-
  DATA of the calls that are remembered, by a program: blocks as trees, what each call needs and leaves.
-/
import Derived.Test.YtnapccecmcdnjaaGreatAmE
set_option linter.unusedVariables false
set_option maxRecDepth 100000
namespace Go.Am.Dat
def B (n : Nat) : Value := .int .u8 (.ofNat n)
def I (n : Nat) : Value := .int .i64 (.ofNat n)
def U (n : Nat) : Value := .int .u64 (.ofNat n)
def W (n : Nat) : Value := .int .u32 (.ofNat n)
def N (v : Value) (l r : Tr Value) : Tr Value := .node (some v) l r
def L (v : Value) : Tr Value := .node (some v) .nil .nil
def o0 : FObj := .cells (N (.bool true) (L (I 4)) (L (I 5))) 3 142 false
def o1 : FObj := .cells (N (I 4) (L (I 5)) .nil) 2 63 false
def m0 : Memo := ⟨[(.slice none 0 0), (.slice (some ⟨846, 0, none⟩) 1 1)], 858, [(846, o0)], (.tuple #[(.slice (some ⟨858, 0, none⟩) 1 18446744073709551616), (I 0)]), [(858, some o1)], 881⟩
end Go.Am.Dat
