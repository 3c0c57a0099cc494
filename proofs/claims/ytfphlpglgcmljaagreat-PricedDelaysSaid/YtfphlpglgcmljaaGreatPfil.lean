/- The program's slices.Repeat of a slice of one element, and math/bits.Mul below it. A zone of one limit: the program's filled, Zero, All. -/
import Derived.Test.YtfphlpglgcmljaaGreatFil
import Derived.Laws.CopyOwn
import Derived.Deep.OwnRows
import Derived.Shelf.Bits.Mul64
import Derived.Test.YtfphlpglgcmljaaGreatZzone
import Derived.Test.YtfphlpglgcmljaaGreatZclose
import Derived.Test.YtfphlpglgcmljaaGreatRand
namespace Go.Proofs.YtfphlpglgcmljaaGreat
open Go.RowKit
set_option linter.unusedVariables false

theorem Tryz.sizeLimit : (Tryz.prog.info? 63).map (·.size) = some 1 := by kernel_rfl
theorem one_at {w : World} {b off j : Nat} {u v : Value} (hj : (List.replicate 1 u)[j]? = some v) (hc : w.cell? ⟨b, off + 0, none⟩ = some u) : w.cell? ((⟨b, off, none⟩ : Addr).add j) = some v := by
  cases j with
  | zero => simp at hj; subst hj; exact hc
  | succ j => simp at hj
/-- The row under way. -/
theorem splice_fill {M : Nat} {l : Int} {q k : Nat} (h : q + k ≤ M) : splice ((fillTo M l q).map (Value.int .i64)) q (List.replicate k (Value.int .i64 l)) = (fillTo M l (q + k)).map (Value.int .i64) := by
  apply List.ext_getElem?
  intro j
  unfold splice
  rw [List.getElem?_append, List.getElem?_append, List.getElem?_map]
  simp only [List.length_take, List.length_map, fillTo_len, List.length_replicate, List.getElem?_take, List.getElem?_drop, List.getElem?_replicate, List.getElem?_map]
  rw [Nat.min_eq_left (by omega)]
  by_cases hj : j < M
  · rw [fillTo_get M l (q + k) j hj]
    by_cases c1 : j < q
    · rw [if_pos c1, if_pos c1, fillTo_get M l q j hj, if_pos c1, if_pos (by omega)]
    · rw [if_neg c1]
      by_cases c2 : j - q < k
      · rw [if_pos c2, if_pos c2, if_pos (by omega)]; rfl
      · rw [if_neg c2, show q + k + (j - q - k) = j by omega, fillTo_get M l q j hj, if_neg c1, if_neg (by omega)]
  · rw [if_neg (by omega), if_neg (by omega), List.getElem?_eq_none (by rw [fillTo_len]; omega), List.getElem?_eq_none (by rw [fillTo_len]; omega)]
theorem made_fill (M : Nat) (l : Int) : madeCells #[Value.int .i64 0] M = ((fillTo M l 0).map (Value.int .i64)).toArray := by
  apply Array.toList_inj.1
  rw [toList_madeCells_one]; simp [fillTo]
theorem row_fill {M : Nat} {l : Int} {g base : Nat} {w : World} (hr : w.heap[g]? = some (.cells ((fillTo M l M).map (Value.int .i64)).toArray 63 (0, 0))) (hM : M ≤ 121) (hb : base ≤ g) : OL 63 base w (.slice (some ⟨g, 0, none⟩) M M) (List.replicate M l) := by
  rw [← fillTo_all]
  unfold OL
  rw [fillTo_len]
  refine ⟨by simp [fillTo_len], .inr ⟨g, M, _, rfl, hb, hr, Nat.le_refl _, by unfold maxLen; omega, by simp [fillTo_len], ?_⟩⟩
  rw [List.toList_toArray]
  exact List.take_of_length_le (by simp [fillTo_len])

end Go.Proofs.YtfphlpglgcmljaaGreat
namespace Go.Proofs.YtfphlpglgcmljaaGreat
open Go.RowKit
set_option linter.unusedVariables false

theorem all_rep (M : Nat) {l : Int} (h : vld l = true) : (List.replicate M l).all vld = true := by
  rw [List.all_eq_true]; intro x hx; rw [List.eq_of_mem_replicate hx]; exact h
theorem rl_one (w : World) (l : Int) (e : Nat) : RL (w.alloc (.cells #[.int .i64 l] e)).heap.size (w.alloc (.cells #[.int .i64 l] e)) (.slice (some ⟨w.heap.size, 0, none⟩) 1 1) [l] := by
  have := rs_one w (.int .i64 l) e
  have h2 : RS (w.heap.size + 1) (w.alloc (.cells #[.int .i64 l] e)) (.slice (some ⟨w.heap.size, 0, none⟩) 1 1) 1 [.int .i64 l] := this
  have h3 : (w.alloc (.cells #[.int .i64 l] e)).heap.size = w.heap.size + 1 := by simp
  rw [h3]; exact h2
theorem rl_one2 (w : World) (o : Obj) (l : Int) (e : Nat) : RL ((w.alloc o).alloc (.cells #[.int .i64 l] e)).heap.size ((w.alloc o).alloc (.cells #[.int .i64 l] e)) (.slice (some ⟨w.heap.size + 1, 0, none⟩) 1 1) [l] := by
  have := rl_one (w.alloc o) l e
  have h3 : (w.alloc o).heap.size = w.heap.size + 1 := by simp
  rw [h3] at this; exact this

end Go.Proofs.YtfphlpglgcmljaaGreat

