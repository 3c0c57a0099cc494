/- Part of the proof of priced_covers_proved: Fresh. -/
import Derived.Test.YtfphlpglgcmljaaGreatXvRat
namespace Go.Proofs.YtfphlpglgcmljaaGreat
open Go.RowKit
theorem RL.other {w : World} {ao : Option Addr} {n c : Nat} {xs : List Int} {K o : Nat} {u : Value} (h : RL w.heap.size w (.slice ao n c) xs) (hne : n = 0 ∨ (Value.slice ao n c).ownBlock ≠ some K) :
  RL (w.setCell ⟨K, o, none⟩ u).heap.size (w.setCell ⟨K, o, none⟩ u) (.slice ao n c) xs := by
 rcases h with h | ⟨b, off, sp, cap, h0, h1, h2, h3, h4⟩
 ·exact .inl h
 ·refine .inr ⟨b, off, sp, cap, h0, h1, h2, h3, fun hp => ?_⟩
  obtain ⟨p, q, r⟩ := h4 hp
  simp only [Value.slice.injEq] at h0
  obtain ⟨rfl, rfl, rfl⟩ := h0
  have hb : b ≠ K := by
   rcases hne with hne | hne
   ·omega
   ·intro e; exact hne (by rw [e]; rfl)
  refine ⟨p, by simpa [World.setCell] using q, fun k hk => ?_⟩
  rw [← r k hk]
  exact World.cell?_of_block (w := w) (a := ⟨b, off + k, none⟩) (Below.heap_setCell w ⟨K, o, none⟩ u b hb)
end Go.Proofs.YtfphlpglgcmljaaGreat
