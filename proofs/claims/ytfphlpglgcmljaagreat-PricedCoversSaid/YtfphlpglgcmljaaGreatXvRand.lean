/- Part of the proof of priced_covers_proved: Rand. -/
import Derived.Deep.RegionLaw
import Derived.Deep.RegionHeld3
import Derived.Test.YtfphlpglgcmljaaGreatXvQ
import Derived.Test.YtfphlpglgcmljaaGreatXvInc
import Derived.Test.YtfphlpglgcmljaaGreatXvZref
import Derived.Test.YtfphlpglgcmljaaGreatXvZof
namespace Go.Proofs.YtfphlpglgcmljaaGreat
open Go.RowKit
set_option linter.unusedVariables false
def kOk (N : Nat) (c : Int × Int × Int) : Bool := decide (0 ≤ c.1 ∧ c.1 ≤ N ∧ 0 ≤ c.2.1 ∧ c.2.1 ≤ N) && vld c.2.2
def AllK (N : Nat) (cs : List (Int × Int × Int)) (q : Nat) : Prop := ∀ k, k < q → kOk N (gk cs k) = true
theorem AllK.succ {N : Nat} {cs : List (Int × Int × Int)} {q : Nat} (h : AllK N cs q) (h' : kOk N (gk cs q) = true) : AllK N cs (q + 1) := fun k hk => by
 by_cases e : k = q
 ·subst e; exact h'
 ·exact h k (by omega)
theorem Loc.put {w wr : World} {row : Option Nat} {l : List Obj} (h : Loc w wr row l) (i : Nat) {cs : Array Value} {t : TypeId} (hl : l[i]? = some (.cells cs t (0, 0))) (k : Nat) (v : Value) :
  Loc w (wr.setCell ⟨w.heap.size + i, k, none⟩ v) row (l.set i (.cells (cs.setIfInBounds k v) t (0, 0))) := by
 have hil := (List.getElem?_eq_some_iff.1 hl).1
 have hs := h.size
 have hb : wr.heap[w.heap.size + i]? = some (.cells cs t (0, 0)) := by rw [h.objs i hil]; exact hl
 refine ⟨⟨h.grown.os, h.grown.tape, h.grown.output, by simp [World.setCell]; exact h.grown.size, fun j hj hne => ?_⟩, fun j hj => ?_, by simp [World.setCell]; exact hs⟩
 ·rw [Below.heap_setCell _ _ _ _ (by simp; omega)]; exact h.grown.block j hj hne
 ·rw [List.length_set] at hj
  by_cases e : j = i
  ·subst e
   rw [heap_setCell_same _ _ _ _ _ _ hb, List.getElem?_set_self hil]
  ·rw [Below.heap_setCell _ _ _ _ (by simp; omega), List.getElem?_set_ne (by omega)]; exact h.objs j hj
end Go.Proofs.YtfphlpglgcmljaaGreat
