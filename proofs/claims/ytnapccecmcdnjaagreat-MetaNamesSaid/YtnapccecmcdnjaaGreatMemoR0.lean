/-
  A CALL remembered: slog.Replay, as it was proved. No condition.
-/
import Derived.Test.YtnapccecmcdnjaaGreatMemoB
import Derived.Test.YtnapccecmcdnjaaGreatMemoD
import Derived.Test.YtnapccecmcdnjaaGreatCRepl
namespace Go.Proofs.YtnapccecmcdnjaaGreat.mm
open Go.Am
set_option maxRecDepth 100000
theorem r0 : MemoOkR Tryz.prog k5 38 Dat.m0 := replayMemo rfl (by constructor <;> rfl) rfl rfl (by decide) (by decide)
end Go.Proofs.YtnapccecmcdnjaaGreat.mm
