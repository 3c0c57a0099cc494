/- Part of the proof of priced_covers_proved: Prs. -/
import Derived.Test.YtfphlpglgcmljaaGreatXvPrc
import Derived.Test.YtfphlpglgcmljaaGreatXvRsq
import Derived.Test.YtfphlpglgcmljaaGreatXvUpz
namespace Go.Proofs.YtfphlpglgcmljaaGreat
open Go.RowKit
set_option linter.unusedVariables false
theorem row_set {w : World} {b k t : Nat} {l : List Value} {v : Value} (h : w.heap[b]? = some (.cells l.toArray t (0, 0))) : (w.setCell ⟨b, k, none⟩ v).heap[b]? = some (.cells (l.set k v).toArray t (0, 0)) := by
 rw [heap_setCell_same _ b k _ _ _ h, List.setIfInBounds_toArray]
theorem row_fro {w : World} {b k t : Nat} {l : List Value} (h : w.heap[b]? = some (.cells l.toArray t (0, 0))) : w.frozen? ⟨b, k, none⟩ = false := frozen_of_row _ b k _ _ h
theorem st1k_ne {w : World} {b i c : Nat} (x : Value) (h : c ≠ b) : (w.setCell ⟨b, i, none⟩ x).heap[c]? = w.heap[c]? := Below.heap_setCell _ _ _ _ h
theorem hp_ne {w : World} {b c t t' : Nat} {x y : Array Value} {f f' : Nat × Nat} (h1 : w.heap[b]? = some (.cells x t f)) (h2 : w.heap[c]? = some (.cells y t' f')) (hne : t ≠ t') : b ≠ c := fun e => by
 subst e
 rw [h1] at h2
 injection h2 with h2
 injection h2 with _ h2
 exact hne h2
theorem Tryz.undBs : Tryz.prog.underlying 109 = some (.slice 4) := by kernel_rfl
theorem Tryz.infBs : (Tryz.prog.info? 4).map (fun i => (i.zero, i.size, i.bytes)) = some (some (.bool false), 1, 1) := by kernel_rfl
theorem step_make {P : Program} {ops : Array Oper} {o : Oper} {a : Act} {w : World} {K : Act → World → Prop} {Q : Exit → Act → World → Prop} {E : Prop}
  (hg : o.guard = none) (l c : Operand) (t : TypeId) (hop : o.op = Op.makeSlice t l c) (e : TypeId) (z : Value) (bytes : Nat) (ht : P.underlying t = some (.slice e)) (hi : (P.info? e).map (fun i => (i.zero, i.size, i.bytes)) = some (some z, 1, bytes)) (hz : z.cells = #[z]) (hb : bytes ≤ 8)
  (n : Nat) (L C : Int) (hl : a.eval l = .int .i64 L) (hc : a.eval c = .int .i64 C) (hL : L = (n : Int)) (hC : C = (n : Int)) (hn : n ≤ 1000)
  (h : K (a.put o.dst (.slice (some ⟨w.heap.size, 0, none⟩) n n)) (w.alloc (.cells (List.replicate n z).toArray e))) :
  if Region.wanted o (yielded ops a.tmps) = true then Oper.wp P o a w K Q else E := by
 obtain ⟨i0, hi0, hz0, hz1, hz2⟩ := info_parts hi
 subst hL hC
 have hbn : i0.bytes * n ≤ 281474976710656 := by
  have : i0.bytes * n ≤ 8 * 1000 := Nat.mul_le_mul (by omega) hn
  omega
 have hbi : (i0.bytes : Int) * (n : Int) ≤ 281474976710656 := by
  have h2 : ((i0.bytes * n : Nat) : Int) ≤ 281474976710656 := by omega
  rwa [Int.natCast_mul] at h2
 have hrun := run_make (P := P) w t e i0 z ht hi0 hz0 .i64 .i64 (n : Int) (n : Int) (by omega) (Int.le_refl _) hbi (by omega)
 rw [Int.toNat_natCast, hz1, Nat.mul_one, hz] at hrun
 have hcell : madeCells #[z] n = (List.replicate n z).toArray := by rw [← toList_madeCells_one z n]
 rw [hcell] at hrun
 have hw : Region.wanted o (yielded ops a.tmps) = true := by simp [Region.wanted, hg]
 rw [if_pos hw]
 unfold Oper.wp
 simp [execOp, hop, hl, hc, hrun, Result.andThen]
 exact h
end Go.Proofs.YtfphlpglgcmljaaGreat
