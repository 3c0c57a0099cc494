/- Part of the proof of priced_covers_proved: Zof. -/
import Derived.Deep.RegionLaw
import Derived.Test.YtfphlpglgcmljaaGreatXvZprog
namespace Go.Proofs.YtfphlpglgcmljaaGreat
open Go.RowKit
def rowsOf (ga N q : Nat) : List Value := (List.range q).map fun i => .slice (some ⟨ga, i * (N + 1), none⟩) (N + 1) (N + 1)
theorem rowsOf_succ (ga N q : Nat) : rowsOf ga N (q + 1) = rowsOf ga N q ++ [.slice (some ⟨ga, q * (N + 1), none⟩) (N + 1) (N + 1)] := by
 simp [rowsOf, List.range_succ]
def Mat (base : Nat) (w : World) (N : Nat) (rv av : Value) (xs : List Int) : Prop :=
 ∃ ga, av.ownBlock = some ga ∧ OL 63 base w av xs ∧ w.ownsRow base 30 1 rv (N + 1) (rowsOf ga N (N + 1)) ∧ rv.ownBlock ≠ some ga
structure OfRel (N ga : Nat) (av : Value) (w1 wr : World) (q : Nat) (rv : Value) : Prop where
 box : wr.heap[w1.heap.size]? = some (.cells #[.int .i64 N, rv, av] 175 (0, 0))
 own : wr.ownsRow (w1.heap.size + 1) 30 1 rv q (rowsOf ga N q)
 keep : Below w1.heap.size w1 wr
theorem OfRel.step {N ga : Nat} {av row rv rv' : Value} {w1 wr w2 : World} {q e : Nat} (h : OfRel N ga av w1 wr q rv)
  (hown : w2.ownsRow (w1.heap.size + 1) 30 1 rv' (q + 1) (rowsOf ga N q ++ [.slice (some ⟨ga, q * (N + 1), none⟩) (N + 1) (N + 1)]))
  (hg : (wr.alloc (.cells #[row] e)).drew.grownBy w2 rv.ownBlock) (hbx : w2.heap[w1.heap.size]? = some (.cells #[.int .i64 N, rv, av] 175 (0, 0))) :
  OfRel N ga av w1 (w2.setCell ⟨w1.heap.size, 1, none⟩ rv') (q + 1) rv' where
 box := by have := heap_setCell_same w2 w1.heap.size 1 _ _ rv' hbx; rw [this]; rfl
 own := by rw [rowsOf_succ]; exact ownsRow_setCell_below hown (by simp) _
 keep := by
  have hsz : w1.heap.size < wr.heap.size := (Array.getElem?_eq_some_iff.1 h.box).1
  have h1 : Below w1.heap.size w1 (wr.alloc (.cells #[row] e)).drew := (h.keep.alloc (by omega) _).drew
  exact (h1.grown hg (by show _ ≤ (wr.alloc _).heap.size; simp; omega) (fun k hk => by have := (h.own.lt k hk).1; omega)).setCell (by simp) _
end Go.Proofs.YtfphlpglgcmljaaGreat
