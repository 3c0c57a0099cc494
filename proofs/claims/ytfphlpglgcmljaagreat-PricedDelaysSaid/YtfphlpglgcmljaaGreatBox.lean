/- The box of a zone that has just been made. -/
import Derived.Test.YtfphlpglgcmljaaGreatFrame
import Derived.Test.YtfphlpglgcmljaaGreatFresh
namespace Go.Proofs.YtfphlpglgcmljaaGreat
open Go.RowKit

theorem BoxZ.atAlloc {w : World} {n : Int} {xs : List Int} {ao : Option Addr} {c : Nat} (hr : RL w.heap.size w (.slice ao xs.length c) xs) (T : TypeId) :
    BoxZ w.heap.size n xs (w.alloc (.cells #[.int .i64 n, .slice ao xs.length c] T)) := by
  have hnew := heap_alloc_new w (.cells #[.int .i64 n, .slice ao xs.length c] T)
  exact ⟨_, _, cell_of_row _ w.heap.size 0 _ T (0, 0) hnew, cell_of_row _ w.heap.size 1 _ T (0, 0) hnew, hr.keepb ((Below.refl _ _).alloc (Nat.le_refl _) _)⟩
theorem BoxZ.stored {wX wA : World} {g : Nat} {n : Int} {xs : List Int} {ao : Option Addr} {c : Nat} {u0 u1 : Value} (hb : Below wX.heap.size wX wA) (h0 : wX.cell? ⟨g, 0, none⟩ = some u0) (h1 : wX.cell? ⟨g, 1, none⟩ = some u1)
    (hr : RL wA.heap.size wA (.slice ao xs.length c) xs) (hf : xs.length = 0 ∨ (Value.slice ao xs.length c).ownBlock = some wX.heap.size) :
    BoxZ g n xs ((wA.setCell ⟨g, 0, none⟩ (.int .i64 n)).setCell ⟨g, 1, none⟩ (.slice ao xs.length c)) := by
  have hg : g < wX.heap.size := World.block_lt_of_cell? wX _ h0
  have hne : xs.length = 0 ∨ (Value.slice ao xs.length c).ownBlock ≠ some g := by
    rcases hf with h | h
    · exact .inl h
    · exact .inr (by rw [h]; simp; omega)
  refine ⟨ao, c, ?_, ?_, (hr.other hne).other hne⟩
  · rw [World.cell?_setCell_other _ _ _ _ (by simp)]
    exact World.cell?_setCell_same _ _ _ (keepb h0 hb)
  · refine World.cell?_setCell_same _ _ _ (u := u1) ?_
    rw [World.cell?_setCell_other _ _ _ _ (by simp)]
    exact keepb h1 hb
theorem BoxZ.storedO {wX wA : World} {g lt : Nat} {n : Int} {xs : List Int} {ao : Option Addr} {c : Nat} {u0 u1 : Value} (hb : Below wX.heap.size wX wA) (h0 : wX.cell? ⟨g, 0, none⟩ = some u0) (h1 : wX.cell? ⟨g, 1, none⟩ = some u1)
    (ho : OL lt wX.heap.size wA (.slice ao xs.length c) xs) :
    BoxZ g n xs ((wA.setCell ⟨g, 0, none⟩ (.int .i64 n)).setCell ⟨g, 1, none⟩ (.slice ao xs.length c)) := by
  have hg : g < wX.heap.size := World.block_lt_of_cell? wX _ h0
  refine ⟨ao, c, ?_, ?_, OL.rl (own_set2 ho hg _ _)⟩
  · rw [World.cell?_setCell_other _ _ _ _ (by simp)]
    exact World.cell?_setCell_same _ _ _ (keepb h0 hb)
  · refine World.cell?_setCell_same _ _ _ (u := u1) ?_
    rw [World.cell?_setCell_other _ _ _ _ (by simp)]
    exact keepb h1 hb
theorem BoxZ.set {w : World} {g K : Nat} {n : Int} {xs : List Int} {u0 u1 : Value} {B : Nat} {wc : World} (hc : BoxZ g n xs wc) (hB : wc.heap.size = B) (hK : B ≤ K) (hb : Below B wc w) :
    BoxZ g n xs ((w.setCell ⟨K, 0, none⟩ u0).setCell ⟨K, 1, none⟩ u1) := by
  subst hB
  exact hc.keep ((hb.setCell (p := ⟨K, 0, none⟩) hK _).setCell (p := ⟨K, 1, none⟩) hK _)
theorem bal {a w : World} (h : Below a.heap.size a w) (o : Obj) : Below a.heap.size a (w.alloc o) := h.alloc h.size o
theorem zbox_keep {w w' : World} {K : Nat} (h0 : w.cell? ⟨K, 0, none⟩ = some (.int .i64 0)) (h1 : w.cell? ⟨K, 1, none⟩ = some (.slice none 0 0)) (f0 : w.frozen? ⟨K, 0, none⟩ = false) (f1 : w.frozen? ⟨K, 1, none⟩ = false) (hb : Below w.heap.size w w') :
    w'.cell? ⟨K, 0, none⟩ = some (.int .i64 0) ∧ w'.cell? ⟨K, 1, none⟩ = some (.slice none 0 0) ∧ w'.frozen? ⟨K, 0, none⟩ = false ∧ w'.frozen? ⟨K, 1, none⟩ = false := by
  have hK : K < w.heap.size := World.block_lt_of_cell? w _ h0
  exact ⟨keepb h0 hb, keepb h1 hb, (hb.frozen (p := ⟨K, 0, none⟩) hK).trans f0, (hb.frozen (p := ⟨K, 1, none⟩) hK).trans f1⟩
theorem zbox_k {w w' : World} {K : Nat} {C : Prop} (h0 : w.cell? ⟨K, 0, none⟩ = some (.int .i64 0)) (h1 : w.cell? ⟨K, 1, none⟩ = some (.slice none 0 0)) (f0 : w.frozen? ⟨K, 0, none⟩ = false) (f1 : w.frozen? ⟨K, 1, none⟩ = false) (hb : Below w.heap.size w w')
    (k : (w'.cell? ⟨K, 0, none⟩ = some (.int .i64 0) ∧ w'.cell? ⟨K, 1, none⟩ = some (.slice none 0 0) ∧ w'.frozen? ⟨K, 0, none⟩ = false ∧ w'.frozen? ⟨K, 1, none⟩ = false) → C) : C := k (zbox_keep h0 h1 f0 f1 hb)
theorem Tryz.undInts : Tryz.prog.underlying 33 = some (.slice 2) := by kernel_rfl
theorem Tryz.infoInt64 : (Tryz.prog.info? 2).map (fun i => (i.zero, i.size, i.bytes)) = some (some (.int .i64 0), 1, 8) := by kernel_rfl
end Go.Proofs.YtfphlpglgcmljaaGreat

