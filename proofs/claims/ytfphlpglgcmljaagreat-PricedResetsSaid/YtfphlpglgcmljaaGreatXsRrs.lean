/- Part of the proof of priced_resets_proved: Rrs. -/
import Derived.Test.YtfphlpglgcmljaaGreatXsRrp
import Derived.Test.YtfphlpglgcmljaaGreatXsRrr
namespace Go.Proofs.YtfphlpglgcmljaaGreat
open Go.RowKit
set_option linter.unusedVariables false
theorem ref_preset (n c x tv : Int) (v rv : Value) (xs rs : List Int) (w : World) (hv : RL w.heap.size w v xs) (hr : RL w.heap.size w rv rs) :
  Calls Tryz.prog 22 #[.agg #[.int .i64 n, v, .int .i64 c, rv], .agg #[.int .i64 x, .int .i64 tv]] w fun e w' => GaP w.heap.size (presetF n xs c rs x tv) e w' ∧ Below w.heap.size w w' := by
 rcases Int.lt_trichotomy (gi rs (x.toNat - 1)) 0 with h | h | h
 ·exact ref_preset_neg n c x tv v rv xs rs w hv hr h
 ·exact ref_preset_zero n c x tv v rv xs rs w hv hr h
 ·exact ref_preset_pos n c x tv v rv xs rs w hv hr h
end Go.Proofs.YtfphlpglgcmljaaGreat
