/- Part of the proof of priced_clears_proved: Rand. -/
import Derived.Deep.RegionLaw
import Derived.Deep.RegionHeld3
import Derived.Test.YtfphlpglgcmljaaGreatXcQ
import Derived.Test.YtfphlpglgcmljaaGreatXcInc
import Derived.Test.YtfphlpglgcmljaaGreatXcZref
import Derived.Test.YtfphlpglgcmljaaGreatXcZof
namespace Go.Proofs.YtfphlpglgcmljaaGreat
open Go.RowKit
set_option linter.unusedVariables false
def kOk (N : Nat) (c : Int × Int × Int) : Bool := decide (0 ≤ c.1 ∧ c.1 ≤ N ∧ 0 ≤ c.2.1 ∧ c.2.1 ≤ N) && vld c.2.2
def andTo (N : Nat) (m : List Int) (cs : List (Int × Int × Int)) : Nat → List Int
 | 0 => m
 | q + 1 => (andTo N m cs q).set ((gk cs q).1.toNat * (N + 1) + (gk cs q).2.1.toNat) (imin (gi (andTo N m cs q) ((gk cs q).1.toNat * (N + 1) + (gk cs q).2.1.toNat)) (gk cs q).2.2)
theorem andTo_len (N : Nat) (m : List Int) (cs : List (Int × Int × Int)) (q : Nat) : (andTo N m cs q).length = m.length := by
 induction q with
 | zero => rfl
 | succ q ih => rw [andTo, List.length_set, ih]
def AllK (N : Nat) (cs : List (Int × Int × Int)) (q : Nat) : Prop := ∀ k, k < q → kOk N (gk cs k) = true
theorem AllK.succ {N : Nat} {cs : List (Int × Int × Int)} {q : Nat} (h : AllK N cs q) (h' : kOk N (gk cs q) = true) : AllK N cs (q + 1) := fun k hk => by
 by_cases e : k = q
 ·subst e; exact h'
 ·exact h k (by omega)
open Classical in
/-- What And returns. -/
noncomputable def andF (n : Int) (xs : List Int) (cs : List (Int × Int × Int)) : Int × List Int :=
 if OkZ n xs ∧ AllK n.toNat cs cs.length then closedF n.toNat (andTo n.toNat xs cs cs.length) else (2, [])
theorem andF_no {n : Int} {xs : List Int} {cs : List (Int × Int × Int)} (h : ¬ (OkZ n xs ∧ AllK n.toNat cs cs.length)) : andF n xs cs = (2, []) := by unfold andF; rw [if_neg h]
theorem andF_yes {N : Nat} {xs : List Int} {cs : List (Int × Int × Int)} (h : OkZ N xs) (h' : AllK N cs cs.length) : andF N xs cs = closedF N (andTo N xs cs cs.length) := by
 unfold andF; rw [if_pos ⟨h, by rw [Int.toNat_natCast]; exact h'⟩, Int.toNat_natCast]
theorem kOk_iff (N : Nat) (I J L : Int) : kOk N (I, J, L) = true ↔ (0 ≤ I ∧ I ≤ N ∧ 0 ≤ J ∧ J ≤ N ∧ vld L = true) := by
 unfold kOk; rw [Bool.and_eq_true, decide_eq_true_eq]
 exact ⟨fun h => ⟨h.1.1, h.1.2.1, h.1.2.2.1, h.1.2.2.2, h.2⟩, fun h => ⟨⟨h.1, h.2.1, h.2.2.1, h.2.2.2.1⟩, h.2.2.2.2⟩⟩
theorem Loc.put {w wr : World} {row : Option Nat} {l : List Obj} (h : Loc w wr row l) (i : Nat) {cs : Array Value} {t : TypeId} (hl : l[i]? = some (.cells cs t (0, 0))) (k : Nat) (v : Value) :
  Loc w (wr.setCell ⟨w.heap.size + i, k, none⟩ v) row (l.set i (.cells (cs.setIfInBounds k v) t (0, 0))) := by
 have hil := (List.getElem?_eq_some_iff.1 hl).1
 have hs := h.size
 have hb : wr.heap[w.heap.size + i]? = some (.cells cs t (0, 0)) := by rw [h.objs i hil]; exact hl
 refine ⟨⟨h.grown.os, h.grown.tape, h.grown.output, by simp [World.setCell]; exact h.grown.size, fun j hj hne => ?_⟩, fun j hj => ?_, by simp [World.setCell]; exact hs⟩
 ·rw [Below.heap_setCell _ _ _ _ (by simp; omega)]; exact h.grown.block j hj hne
 ·rw [List.length_set] at hj
  by_cases e : j = i
  ·subst e
   rw [heap_setCell_same _ _ _ _ _ _ hb, List.getElem?_set_self hil]
  ·rw [Below.heap_setCell _ _ _ _ (by simp; omega), List.getElem?_set_ne (by omega)]; exact h.objs j hj
theorem Loc.belowB {w wr w' : World} {l : List Obj} {B : Nat} (h : Loc w wr none l) (hb : Below B wr w') (hB : w.heap.size + l.length ≤ B) : Loc w w' none l :=
 ⟨⟨hb.os.trans h.grown.os, hb.tape.trans h.grown.tape, hb.output.trans h.grown.output, Nat.le_trans h.grown.size hb.size, fun i hi hne => (hb.block i (by omega)).trans (h.grown.block i hi hne)⟩,
  fun i hi => (hb.block _ (by omega)).trans (h.objs i hi), Nat.le_trans h.size hb.size⟩
end Go.Proofs.YtfphlpglgcmljaaGreat
