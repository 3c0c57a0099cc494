/- Part of the proof of priced_covers_proved: Frame. -/
import Derived.ProofKit
import Derived.OpenShut
import Derived.ShutString
import Derived.ChangeOld
import Derived.Lib.SmallJoins
import Derived.Test.YtfphlpglgcmljaaGreatXvRat
namespace Go.Proofs.YtfphlpglgcmljaaGreat
open Go.ChangeShapes Go.WideShapes Go.ChangeAt Go.RowKit
theorem rl_of_trod {H : Type} {enc : TypeId × Value → H} {P : Program} {w : World} {T E fuel : Nat} {v : Value} {x : DataW H × List MemPlace} (hT : P.underlying T = some (.slice E)) (hE : P.underlying E = some (.int .i64)) (hc : P.cellsOf E = 1)
  (h : DataW.trod enc P w 0 (fun _ => true) true fuel T [v] = some x) : ∃ xs, RL w.heap.size w v xs ∧ ∀ n ∈ xs, (Lit.int .i64 n).wf = true := by
 rcases open_ints hT hE hc h with ⟨hcs, _⟩ | ⟨a, l, c, zs, hcs, _, hl, hm, hz, _, hcell, hwz⟩
 ·simp only [List.cons.injEq, and_true] at hcs
  subst hcs
  exact ⟨[], .inl ⟨rfl, rfl, rfl⟩, fun n hn => by cases hn⟩
 ·simp only [List.cons.injEq, and_true] at hcs
  subst hcs
  have hz' : zs.length = c := by simpa using hz
  refine ⟨zs.take l, ?_, fun n hn => hwz n (List.mem_of_mem_take hn)⟩
  have hlen : (zs.take l).length = l := by rw [List.length_take]; omega
  unfold RL
  rw [hlen]
  refine .inr ⟨a.block, a.off, a.spot, c, rfl, hl, hm, fun h0 => by subst h0; simp, fun hp => ?_⟩
  obtain ⟨b, off, e1, e2⟩ := ints_at hcell (by omega)
  subst e1
  refine ⟨rfl, World.block_lt_of_cell? w _ (e2 0 (by omega)), fun k hk => ?_⟩
  rw [List.length_map, hlen] at hk
  show w.cell? ⟨b, off + k, none⟩ = _
  rw [e2 k (by omega), List.getElem?_map, List.getElem?_take, if_pos hk, List.getElem?_eq_getElem (by omega)]
  simp [List.getD_eq_getElem?_getD, List.getElem?_eq_getElem (show k < zs.length by omega)]
structure BoxZ (g : Nat) (n : Int) (xs : List Int) (w : World) : Prop where
 ex : ∃ ao c, w.cell? ⟨g, 0, none⟩ = some (.int .i64 n) ∧ w.cell? ⟨g, 1, none⟩ = some (.slice ao xs.length c) ∧ RL w.heap.size w (.slice ao xs.length c) xs
theorem BoxZ.keep {g : Nat} {n : Int} {xs : List Int} {w w' : World} (h : BoxZ g n xs w) (hb : Below w.heap.size w w') : BoxZ g n xs w' := by
 obtain ⟨ao, c, h1, h2, h3⟩ := h.ex
 exact ⟨ao, c, keepb h1 hb, keepb h2 hb, h3.keepb hb⟩
theorem BoxZ.lt {g : Nat} {n : Int} {xs : List Int} {w : World} (h : BoxZ g n xs w) : g < w.heap.size := by
 obtain ⟨ao, c, h1, _⟩ := h.ex
 exact World.block_lt_of_cell? w _ h1
end Go.Proofs.YtfphlpglgcmljaaGreat
