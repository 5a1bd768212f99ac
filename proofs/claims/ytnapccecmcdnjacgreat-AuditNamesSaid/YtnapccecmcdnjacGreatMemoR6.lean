/-
  A CALL remembered: slog.Replay, as it was proved. No condition.
-/
import Derived.Test.YtnapccecmcdnjacGreatMemoB
import Derived.Test.YtnapccecmcdnjacGreatMemoD
import Derived.Test.YtnapccecmcdnjacGreatCRepl
namespace Go.Proofs.YtnapccecmcdnjacGreat.mm
open Go.Am
set_option maxRecDepth 100000
theorem r6 : MemoOkR Tryz.prog k5 57 Dat.m6 := replayMemo rfl (by constructor <;> rfl) rfl rfl (by decide) (by decide)
end Go.Proofs.YtnapccecmcdnjacGreat.mm
