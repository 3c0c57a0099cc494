/- Part of the proof of priced_covers_proved: Box. -/
import Derived.Test.YtfphlpglgcmljaaGreatXvFrame
import Derived.Test.YtfphlpglgcmljaaGreatXvFresh
namespace Go.Proofs.YtfphlpglgcmljaaGreat
open Go.RowKit
theorem BoxZ.stored {wX wA : World} {g : Nat} {n : Int} {xs : List Int} {ao : Option Addr} {c : Nat} {u0 u1 : Value} (hb : Below wX.heap.size wX wA) (h0 : wX.cell? ⟨g, 0, none⟩ = some u0) (h1 : wX.cell? ⟨g, 1, none⟩ = some u1)
  (hr : RL wA.heap.size wA (.slice ao xs.length c) xs) (hf : xs.length = 0 ∨ (Value.slice ao xs.length c).ownBlock = some wX.heap.size) :
  BoxZ g n xs ((wA.setCell ⟨g, 0, none⟩ (.int .i64 n)).setCell ⟨g, 1, none⟩ (.slice ao xs.length c)) := by
 have hg : g < wX.heap.size := World.block_lt_of_cell? wX _ h0
 have hne : xs.length = 0 ∨ (Value.slice ao xs.length c).ownBlock ≠ some g := by
  rcases hf with h | h
  ·exact .inl h
  ·exact .inr (by rw [h]; simp; omega)
 refine ⟨ao, c, ?_, ?_, (hr.other hne).other hne⟩
 ·rw [World.cell?_setCell_other _ _ _ _ (by simp)]
  exact World.cell?_setCell_same _ _ _ (keepb h0 hb)
 ·refine World.cell?_setCell_same _ _ _ (u := u1) ?_
  rw [World.cell?_setCell_other _ _ _ _ (by simp)]
  exact keepb h1 hb
theorem BoxZ.set {w : World} {g K : Nat} {n : Int} {xs : List Int} {u0 u1 : Value} {B : Nat} {wc : World} (hc : BoxZ g n xs wc) (hB : wc.heap.size = B) (hK : B ≤ K) (hb : Below B wc w) :
  BoxZ g n xs ((w.setCell ⟨K, 0, none⟩ u0).setCell ⟨K, 1, none⟩ u1) := by
 subst hB
 exact hc.keep ((hb.setCell (p := ⟨K, 0, none⟩) hK _).setCell (p := ⟨K, 1, none⟩) hK _)
end Go.Proofs.YtfphlpglgcmljaaGreat
