/- Part of the proof of priced_resets_proved: Rat. -/
import Derived.Test.YtfphlpglgcmljaaGreatXsQ
import Derived.Test.YtfphlpglgcmljaaGreatXsFw
namespace Go.Proofs.YtfphlpglgcmljaaGreat
open Go.RowKit
set_option linter.unusedVariables false
def RE (r : (Int × Int) × Int) (e : Ending) : Prop := e = .returned (.tuple #[.agg #[.int .i64 r.1.1, .int .i64 r.1.2], .int .i64 r.2])
theorem RE.of {r : (Int × Int) × Int} {p q x : Int} (h : r = ((p, q), x)) : RE r (.returned (.tuple #[.agg #[.int .i64 p, .int .i64 q], .int .i64 x])) := by subst h; rfl
set_option linter.unusedVariables false
theorem Loc.push {w wr : World} {row : Option Nat} {l : List Obj} (h : Loc w wr row l) (hs : wr.heap.size = w.heap.size + l.length) (o : Obj) : Loc w (wr.alloc o) row (l ++ [o]) :=
 ⟨grownBy_trans h.grown (World.grownBy_alloc _ _ _), fun i hi => by
  rw [List.length_append, List.length_singleton] at hi
  by_cases e : i < l.length
  ·rw [List.getElem?_append_left e, Below.heap_alloc _ _ _ (by omega)]; exact h.objs i e
  ·obtain rfl : i = l.length := by omega
   rw [List.getElem?_append_right (Nat.le_refl _), Nat.sub_self, ← hs]
   exact heap_alloc_new wr o, by rw [List.length_append, List.length_singleton, World.size_alloc]; omega⟩
theorem Loc.three (w : World) (a b c : Obj) (row : Option Nat) : Loc w (((w.alloc a).alloc b).alloc c) row [a, b, c] := (Loc.two w a b row).push (by simp) c
def BEm (r : Bool × Int) (e : Ending) : Prop := e = .returned (.tuple #[.bool r.1, .int .i64 r.2])
theorem BEm.of {r : Bool × Int} {b : Bool} {x : Int} (h : r = (b, x)) : BEm r (.returned (.tuple #[.bool b, .int .i64 x])) := by subst h; rfl
end Go.Proofs.YtfphlpglgcmljaaGreat
