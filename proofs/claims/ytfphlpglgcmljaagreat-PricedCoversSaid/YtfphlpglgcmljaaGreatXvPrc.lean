/- Part of the proof of priced_covers_proved: Pix, Prc. -/
import Derived.Deep.RegionHeld3
import Derived.Deep.DeepCutAuto
import Derived.Test.YtfphlpglgcmljaaGreatXvCvb
import Derived.Test.YtfphlpglgcmljaaGreatXvHeldU
namespace Go.Proofs.YtfphlpglgcmljaaGreat
open Go.RowKit
set_option linter.unusedVariables false
theorem row_at {w : World} {b k t : Nat} {l : List Value} {v : Value} (h : w.heap[b]? = some (.cells l.toArray t (0, 0))) (hk : l[k]? = some v) : w.cell? ⟨b, k, none⟩ = some v := by
 rw [cell_of_row _ b k _ _ _ h]
 simpa using hk
set_option linter.unusedVariables false
theorem own_cell {e base g n cap : Nat} {w : World} {xs : List Int} (h : OL e base w (.slice (some ⟨g, 0, none⟩) n cap) xs) {k : Nat} (hk : k < xs.length) : w.cell? ⟨g, k, none⟩ = some (.int .i64 (gi xs k)) := by
 obtain ⟨g', cap', e, _, _, _, hc⟩ := h.open (by omega)
 injection e with e
 injection e with e
 injection e with e
 subst e
 exact (hc k hk).1
theorem own_fro {e base g n cap : Nat} {w : World} {xs : List Int} (h : OL e base w (.slice (some ⟨g, 0, none⟩) n cap) xs) {k : Nat} (hk : k < xs.length) : w.frozen? ⟨g, k, none⟩ = false := by
 obtain ⟨g', cap', e, _, _, _, hc⟩ := h.open (by omega)
 injection e with e
 injection e with e
 injection e with e
 subst e
 exact (hc k hk).2
end Go.Proofs.YtfphlpglgcmljaaGreat
