/- Part of the proof of priced_covers_proved: Pand2. -/
import Derived.Shelf.Abstract
import Derived.Laws.CopyOwn
import Derived.Deep.OwnRows
import Derived.Shelf.Bits.Mul64
import Derived.Deep.RegionLaw
import Derived.Deep.RegionHeld3
import Derived.Test.YtfphlpglgcmljaaGreatXvZref
import Derived.Test.YtfphlpglgcmljaaGreatXvZof
import Derived.Test.YtfphlpglgcmljaaGreatXvZzone
import Derived.Test.YtfphlpglgcmljaaGreatXvRand
namespace Go.Proofs.YtfphlpglgcmljaaGreat
open Go.RowKit
set_option linter.unusedVariables false
theorem Mat.alloc {base N : Nat} {w : World} {rv av : Value} {xs : List Int} (h : Mat base w N rv av xs) (o : Obj) : Mat base (w.alloc o) N rv av xs := by
 obtain ⟨ga, h1, h2, h3, h4⟩ := h
 exact ⟨ga, h1, World.ownsRow.alloc h2 o, World.ownsRow.alloc h3 o, h4⟩
set_option linter.unusedVariables false
end Go.Proofs.YtfphlpglgcmljaaGreat
namespace Go.Proofs.YtfphlpglgcmljaaGreat
open Go.RowKit
set_option linter.unusedVariables false
end Go.Proofs.YtfphlpglgcmljaaGreat
