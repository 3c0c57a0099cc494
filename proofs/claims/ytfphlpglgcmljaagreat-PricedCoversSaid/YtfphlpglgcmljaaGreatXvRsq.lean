/- Part of the proof of priced_covers_proved: Sh3, Rsq. -/
import Derived.Laws.StructEq
import Derived.BigQuiet
import Derived.Deep.RegionLaw
import Derived.Deep.RegionHeld3
import Derived.Deep.DeepCutAuto
import Derived.Test.YtfphlpglgcmljaaGreatXvRat
import Derived.Test.YtfphlpglgcmljaaGreatXvSta
import Derived.Test.YtfphlpglgcmljaaGreatXvUpz
import Derived.Test.YtfphlpglgcmljaaGreatXvSame
import Derived.Test.YtfphlpglgcmljaaGreatXvQ
import Derived.Test.YtfphlpglgcmljaaGreatXvZref
import Derived.Test.YtfphlpglgcmljaaGreatXvZof
import Derived.Test.YtfphlpglgcmljaaGreatXvBox
import Derived.Test.YtfphlpglgcmljaaGreatXvK3
import Derived.Test.YtfphlpglgcmljaaGreatXvClx
import Derived.Test.YtfphlpglgcmljaaGreatXvRand
namespace Go.Proofs.YtfphlpglgcmljaaGreat
open Go.RowKit
set_option linter.unusedVariables false
instance (n : Int) : Decidable (I64 n) := by unfold I64; exact inferInstance
set_option linter.unusedVariables false
end Go.Proofs.YtfphlpglgcmljaaGreat
namespace Go.Proofs.YtfphlpglgcmljaaGreat
open Go.RowKit
set_option linter.unusedVariables false
theorem OkZ.rg {N : Nat} {xs : List Int} (h : OkZ N xs) {i j : Nat} (hi : i ≤ N) (hj : j ≤ N) : Rg 1152921504606846976 (ent N xs i j) := by
 have := h.elo hi hj; unfold Rg; omega
theorem OkZ.top {N : Nat} {xs : List Int} (h : OkZ N xs) {i j : Nat} (hi : i ≤ N) (hj : j ≤ N) : ent N xs i j ≤ 1099511627776 := by
 have := h.elo hi hj; omega
section
variable {N x : Nat} {xs : List Int} {c : Int}
end
end Go.Proofs.YtfphlpglgcmljaaGreat
