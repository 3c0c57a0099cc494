/- Part of the proof of priced_covers_proved: Paw. -/
import Derived.Test.YtfphlpglgcmljaaGreatRows
import Derived.Test.YtfphlpglgcmljaaGreatXvEvl
namespace Go.Proofs.YtfphlpglgcmljaaGreat
open Go.RowKit
set_option linter.unusedVariables false
set_option maxRecDepth 1000000 in
theorem awake_run : Ev.isTrue (Ev.evCall Tryz.prog 40 12) = true := by kernel_rfl
theorem law_awake (w : World) : Calls Tryz.prog 12 #[] w fun e w' => e = .returned (.bool true) ∧ Below w.heap.size w w' := Ev.call_true (by kernel_rfl) awake_run w
end Go.Proofs.YtfphlpglgcmljaaGreat
