/- Part of the proof of priced_covers_proved: Zzone. -/
import Derived.BigRegion
import Derived.Test.YtfphlpglgcmljaaGreatXvZof
import Derived.Test.YtfphlpglgcmljaaGreatXvFw2
namespace Go.Proofs.YtfphlpglgcmljaaGreat
open Go.RowKit
theorem Mat.open {base N : Nat} {w : World} {rv av : Value} {xs : List Int} (h : Mat base w N rv av xs) (hx : xs.length = (N + 1) * (N + 1)) :
  ∃ ga gr capr capa, rv = .slice (some ⟨gr, 0, none⟩) (N + 1) capr ∧ av = .slice (some ⟨ga, 0, none⟩) xs.length capa ∧ gr ≠ ga ∧ gr < w.heap.size ∧ ga < w.heap.size ∧ base ≤ ga ∧
   OL 63 base w av xs ∧ (∀ i, i ≤ N → w.cell? ⟨gr, i, none⟩ = some (.slice (some ⟨ga, i * (N + 1), none⟩) (N + 1) (N + 1))) := by
 obtain ⟨ga, h1, h2, h3, h4⟩ := h
 obtain ⟨g', capa, rfl, h5, h6, _, _⟩ := h2.open (by rw [hx]; exact Nat.mul_pos (by omega) (by omega))
 simp only [Value.ownBlock, Option.some.injEq] at h1
 subst h1
 rcases h3.2 with ⟨rfl, h0⟩ | ⟨gr, capr, cur, rfl, hb, hg, hnc, hcm, hcs, ht⟩
 ·omega
 ·refine ⟨g', gr, capr, capa, rfl, rfl, fun e => h4 (by rw [e]; rfl), (Array.getElem?_eq_some_iff.1 hg).1, h6, h5, h2, fun i hi => ?_⟩
  rw [World.ownsRow.cellAt h3 i (by omega)]
  simp [rowsOf, List.getElem?_map, List.getElem?_range (show i < N + 1 by omega)]
end Go.Proofs.YtfphlpglgcmljaaGreat
