/- Part of the proof of priced_covers_proved: Pct. -/
import Derived.Deep.DeepCutAuto
import Derived.Test.YtfphlpglgcmljaaGreatXvPzc
import Derived.Test.YtfphlpglgcmljaaGreatXvRand
import Derived.Test.YtfphlpglgcmljaaGreatXvPand2
import Derived.Test.YtfphlpglgcmljaaGreatXvK3
namespace Go.Proofs.YtfphlpglgcmljaaGreat
open Go.RowKit
set_option linter.unusedVariables false
theorem wrap_w64 (x : Int) : wrap64 x = IntKind.i64.wrap x := by rw [IntKind.wrap_i64]; unfold wrap64; omega
end Go.Proofs.YtfphlpglgcmljaaGreat
