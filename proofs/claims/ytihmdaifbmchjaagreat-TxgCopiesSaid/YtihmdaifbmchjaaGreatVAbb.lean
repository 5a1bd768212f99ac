/-
  SHORT NAMES for lists of cells that the printed conditions show often.
-/
import Derived.Test.YtihmdaifbmchjaaGreatAmG
set_option linter.unusedVariables false
namespace Go.Am
abbrev zC:List Value:=[.int .u64 0,.string (ByteArray.mk #[]),.bool false,.int .u64 0,.int .u64 0,.int .u64 0,.int .i64 0,.int .i64 0,.int .u64 0,.int .u32 0,.slice none 0 0]
abbrev sC (a:Int) (b:ByteArray) (c:Bool) (d e f g i j k:Int) (l:Option Addr) (m n:Nat):List Value:=[.int .u64 a,.string b,.bool c,.int .u64 d,.int .u64 e,.int .u64 f,.int .i64 g,.int .i64 i,.int .u64 j,.int .u32 k,.slice l m n]
abbrev qL (a b c:Int):List Value:=[.int .i64 a,.int .u64 b,.int .u32 c]
abbrev bC (a:Int) (b:Option Addr) (c d:Nat):List Value:=[.int .u64 a,.slice b c d]
end Go.Am
