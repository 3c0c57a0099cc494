/- Part of the proof of priced_clears_proved: Pct. -/
import Derived.Deep.DeepCutAuto
import Derived.Test.YtfphlpglgcmljaaGreatXcPzc
import Derived.Test.YtfphlpglgcmljaaGreatXcRand
import Derived.Test.YtfphlpglgcmljaaGreatXcPand2
import Derived.Test.YtfphlpglgcmljaaGreatXcK3
namespace Go.Proofs.YtfphlpglgcmljaaGreat
open Go.RowKit
set_option linter.unusedVariables false
theorem OK3.keepw {t base : Nat} {w w' : World} {v : Value} {cs : List K3} (h : OK3 t base w v cs) (hb : Below w.heap.size w w') : OK3 t base w' v cs :=
 World.ownsRow.kept h (grownBy_below hb none) (by cases hh : v.ownBlock with | none => exact .inl rfl | some b => exact .inr (by simp))
theorem wrap_w64 (x : Int) : wrap64 x = IntKind.i64.wrap x := by rw [IntKind.wrap_i64]; unfold wrap64; omega
end Go.Proofs.YtfphlpglgcmljaaGreat
