/- Part of the proof of priced_covers_proved: Prat, Rmu. -/
import Derived.Deep.RegionHeld3
import Derived.Laws.EntriesVeiled
import Derived.Deep.DeepCutAuto
import Derived.Test.YtfphlpglgcmljaaGreatXvRat
namespace Go.Proofs.YtfphlpglgcmljaaGreat
open Go.RowKit
set_option linter.unusedVariables false
set_option linter.unusedVariables false
end Go.Proofs.YtfphlpglgcmljaaGreat
namespace Go.Proofs.YtfphlpglgcmljaaGreat
open Go.RowKit
set_option linter.unusedVariables false
def I64 (n : Int) : Prop := -9223372036854775808 ≤ n ∧ n ≤ 9223372036854775807
set_option linter.unusedVariables false
def sbR (a b c d : Int) : (Int × Int) × Int := if vr a b = true ∧ vr c d = true then mkR (a * d - c * b) (b * d) else ((0, 0), 2)
theorem sbR_yes {a b c d : Int} (h : (vr a b && vr c d) = true) : sbR a b c d = mkR (a * d - c * b) (b * d) := by unfold sbR; rw [if_pos (by simpa using h)]
def cmR (a b c d : Int) : Int × Int := if vr a b = true ∧ vr c d = true then (if a * d - c * b < 0 then -1 else if 0 < a * d - c * b then 1 else 0, 0) else (0, 2)
def NE (r : Int × Int) (e : Ending) : Prop := e = .returned (.tuple #[.int .i64 r.1, .int .i64 r.2])
theorem NE.of {r : Int × Int} {b x : Int} (h : r = (b, x)) : NE r (.returned (.tuple #[.int .i64 b, .int .i64 x])) := by subst h; rfl
set_option linter.unusedVariables false
def mulR (a b c d : Int) : (Int × Int) × Int := if vr a b = true ∧ vr c d = true then mkR (a * c) (b * d) else ((0, 0), 2)
theorem mulR_yes2 {a b c d : Int} (h : vr a b = true ∧ vr c d = true) : mulR a b c d = mkR (a * c) (b * d) := by unfold mulR; rw [if_pos h]
end Go.Proofs.YtfphlpglgcmljaaGreat
