/- Part of the proof of stopwatch_explores_proved: Swe. -/
import Derived.Test.YtokljoajalmkfaaXeSwd
namespace Go.Proofs.Ytokljoajalmkfaa
open Go.RowKit
set_option linter.unusedVariables false
set_option linter.unusedSimpArgs false
set_option linter.unnecessarySimpa false
def perT (ts : List Tk) (k : Nat) : Nat → Int := fun j => if j < k then (tk ts j).T else 0
theorem perT_next (ts : List Tk) (k : Nat) : upI (perT ts k) k (tk ts k).T = perT ts (k + 1) := by
 funext j
 unfold upI perT
 by_cases e : j = k
 ·subst e; rw [if_pos rfl, if_pos (by omega)]
 ·rw [if_neg e]
  by_cases c : j < k
  ·rw [if_pos c, if_pos (by omega)]
  ·rw [if_neg c, if_neg (by omega)]
theorem zc55 : (#[.int .i64 0, .int .i64 0, .int .i64 0, .int .i64 0, .int .i64 0, .int .i64 0, .int .i64 0, .int .i64 0, .int .i64 0, .int .i64 0, .int .i64 0, .int .i64 0, .int .i64 0, .int .i64 0, .int .i64 0, .int .i64 0] : Array Value) = (lS (fun _ => 0) (fun _ => 0)).toArray := rfl
theorem below_setRow {w X : World} {g : Nat} {cs : Array Value} (h : Below w.heap.size w X) (hg : w.heap.size ≤ g) : Below w.heap.size w (X.setRow g cs) :=
 ⟨h.os, h.tape, h.output, by show w.heap.size ≤ (X.setRow g cs).heap.size; simp only [World.setRow, Array.size_modify]; exact h.size, fun i hi => (setRow_other X g i cs (by omega)).trans (h.block i hi)⟩
theorem lS_size (s l : Nat → Int) : (lS s l).toArray.size = 16 := by simp [lS, lV_len]
theorem lS_one (s l : Nat → Int) : (lS s l).toArray.all (·.oneCell') = true := by simp [lS, lV]; intros; rfl
set_option maxRecDepth 100000 in
set_option maxHeartbeats 8000000 in
theorem ref_first (v : Value) (ts : List Tk) (w : World) (hv : TsR w v ts) (h8 : ts.length ≤ 8) :
  Calls Try.prog 20 #[v] w fun e w' => e = .returned (stV (perT ts ts.length) (fun _ => 0)) ∧ Below w.heap.size w w' := by
 obtain ⟨ao, cap, rfl, hle, h0⟩ := hv.open
 have H0 := Lib.hid h0
 have hloc := Loc.two w (.cells #[.int .i64 0, .int .i64 0, .int .i64 0, .int .i64 0, .int .i64 0, .int .i64 0, .int .i64 0, .int .i64 0, .int .i64 0, .int .i64 0, .int .i64 0, .int .i64 0, .int .i64 0, .int .i64 0, .int .i64 0, .int .i64 0] 55) (.cells #[.int .i64 0, .int .i64 0, .int .i64 0, .int .i64 0, .int .i64 0, .int .i64 0, .int .i64 0, .int .i64 0, .int .i64 0, .int .i64 0, .int .i64 0, .int .i64 0, .int .i64 0, .int .i64 0, .int .i64 0, .int .i64 0] 55) none
 have hbw := below_grownBy hloc.grown
 have hqa : ((w.alloc (.cells #[.int .i64 0, .int .i64 0, .int .i64 0, .int .i64 0, .int .i64 0, .int .i64 0, .int .i64 0, .int .i64 0, .int .i64 0, .int .i64 0, .int .i64 0, .int .i64 0, .int .i64 0, .int .i64 0, .int .i64 0, .int .i64 0] 55)).alloc (.cells #[.int .i64 0, .int .i64 0, .int .i64 0, .int .i64 0, .int .i64 0, .int .i64 0, .int .i64 0, .int .i64 0, .int .i64 0, .int .i64 0, .int .i64 0, .int .i64 0, .int .i64 0, .int .i64 0, .int .i64 0, .int .i64 0] 55)).heap[w.heap.size]? = some (.cells #[.int .i64 0, .int .i64 0, .int .i64 0, .int .i64 0, .int .i64 0, .int .i64 0, .int .i64 0, .int .i64 0, .int .i64 0, .int .i64 0, .int .i64 0, .int .i64 0, .int .i64 0, .int .i64 0, .int .i64 0, .int .i64 0] 55 (0, 0)) := hloc.objs 0 (by simp)
 have hqb : ((w.alloc (.cells #[.int .i64 0, .int .i64 0, .int .i64 0, .int .i64 0, .int .i64 0, .int .i64 0, .int .i64 0, .int .i64 0, .int .i64 0, .int .i64 0, .int .i64 0, .int .i64 0, .int .i64 0, .int .i64 0, .int .i64 0, .int .i64 0] 55)).alloc (.cells #[.int .i64 0, .int .i64 0, .int .i64 0, .int .i64 0, .int .i64 0, .int .i64 0, .int .i64 0, .int .i64 0, .int .i64 0, .int .i64 0, .int .i64 0, .int .i64 0, .int .i64 0, .int .i64 0, .int .i64 0, .int .i64 0] 55)).heap[w.heap.size + 1]? = some (.cells #[.int .i64 0, .int .i64 0, .int .i64 0, .int .i64 0, .int .i64 0, .int .i64 0, .int .i64 0, .int .i64 0, .int .i64 0, .int .i64 0, .int .i64 0, .int .i64 0, .int .i64 0, .int .i64 0, .int .i64 0, .int .i64 0] 55 (0, 0)) := hloc.objs 1 (by simp)
 obtain ⟨n, hn⟩ : ∃ n, ts.length = n := ⟨_, rfl⟩
 have Hn := Lib.hid hn
 rw [hn] at h8 H0 ⊢
 clear hv h0 hle hn hloc
 go_enter Try.func20, Try.ntmps20
 go_upto_region 2 with fail
 generalize (w.alloc (.cells #[.int .i64 0, .int .i64 0, .int .i64 0, .int .i64 0, .int .i64 0, .int .i64 0, .int .i64 0, .int .i64 0, .int .i64 0, .int .i64 0, .int .i64 0, .int .i64 0, .int .i64 0, .int .i64 0, .int .i64 0, .int .i64 0] 55)).alloc (.cells #[.int .i64 0, .int .i64 0, .int .i64 0, .int .i64 0, .int .i64 0, .int .i64 0, .int .i64 0, .int .i64 0, .int .i64 0, .int .i64 0, .int .i64 0, .int .i64 0, .int .i64 0, .int .i64 0, .int .i64 0, .int .i64 0] 55) = X at *
 rw [zc55] at hqa hqb
 have HBa := Lib.hid hqa
 have HBb := Lib.hid (show X.heap[w.heap.size + 1]? = some (.cells (lS (perT ts 0) (fun _ => 0)).toArray 55 (0, 0)) by
  rw [show perT ts 0 = fun _ => 0 by funext j; unfold perT; rw [if_neg (by omega)]]; exact hqb)
 have HW := Lib.hid hbw
 clear hqa hqb hbw
 go_wp2_with fail
 go_loopw [4] (fun c wr => ∃ k : Nat, k ≤ n ∧ c = .int .i64 k ∧ wr.heap[w.heap.size]? = some (.cells (lS (fun _ => 0) (fun _ => 0)).toArray 55 (0, 0)) ∧ wr.heap[w.heap.size + 1]? = some (.cells (lS (perT ts k) (fun _ => 0)).toArray 55 (0, 0)) ∧ Below w.heap.size w wr) (fun c _ => n - (intOf c).toNat)
 case atStart => exact ⟨0, Nat.zero_le _, rfl, HBa.out, HBb.out, HW.out⟩
 case round =>
  clear HBa HBb HW
  obtain ⟨k, hk, rfl, h1, h2, h3⟩ := hrel
  have HBa := Lib.hid h1
  have HBb := Lib.hid h2
  have HW := Lib.hid h3
  clear h1 h2 h3
  obtain ⟨wa, hwa⟩ : ∃ V, V = wr := ⟨_, rfl⟩
  subst hwa
  by_cases hlt : k < n
  ·have htk : decide ((k : Int) < (n : Int)) = true := by simp; omega
   obtain ⟨b, off, rfl, hb, hc⟩ := H0.out (by omega)
   obtain ⟨-, c1, -, -, -, -, -⟩ := hc k hlt
   replace c1 := ((bcell HW.out).1 b _ hb).trans c1
   have k8 : k < 8 := by omega
   have k0 : (k : Int) < (n : Int) := by omega
   have k1 : (0 : Int) ≤ (k : Int) := by omega
   have k88 : (k : Int) < 8 := by omega
   obtain ⟨T, hT⟩ : ∃ y, (tk ts k).T = y := ⟨_, rfl⟩
   rw [hT] at c1
   have cx : wa.cell? ⟨w.heap.size + 1, k, none⟩ = some (.int .i64 (perT ts k k)) := row_at HBb.out (lS_since _ _ k8)
   have cf : wa.frozen? ⟨w.heap.size + 1, k, none⟩ = false := row_fro (k := k) HBb.out
   have HR1 := Lib.hid (show (wa.setCell ⟨w.heap.size + 1, k, none⟩ (.int .i64 T)).heap[w.heap.size + 1]? = some (.cells (lS (perT ts (k + 1)) (fun _ => 0)).toArray 55 (0, 0)) by
    rw [← perT_next, hT, ← lS_set0 _ _ k8]; exact row_set (k := k) (v := .int .i64 T) HBb.out)
   have HR2 := Lib.hid (show (wa.setCell ⟨w.heap.size + 1, k, none⟩ (.int .i64 T)).heap[w.heap.size]? = some (.cells (lS (fun _ => 0) (fun _ => 0)).toArray 55 (0, 0)) from (st1k_ne (w := wa) (b := w.heap.size + 1) (i := k) (c := w.heap.size) (.int .i64 T) (by omega)).trans HBa.out)
   have HR3 := Lib.hid (HW.out.setCell (p := ⟨w.heap.size + 1, k, none⟩) (by show w.heap.size ≤ w.heap.size + 1; omega) (.int .i64 T))
   clear hc hT HBa HBb HW
   go_wp2_with fail
   go_roundw
   case rel => exact ⟨k + 1, by omega, by go_num, HR2.out, HR1.out, HR3.out⟩
   case measure => simp [intOf]; omega
  ·have htk : decide ((k : Int) < (n : Int)) = false := by simp; omega
   obtain rfl : n = k := by omega
   have hrb := HBb.out
   have hra := HBa.out
   obtain ⟨cs, hcs⟩ : ∃ c, c = (lS (perT ts n) (fun _ => 0)).toArray := ⟨_, rfl⟩
   rw [← hcs] at hrb
   have hsz : cs.size = 16 := by rw [hcs]; exact lS_size _ _
   have hsz0 : (lS (fun _ => 0) (fun _ => 0)).toArray.size = 16 := lS_size _ _
   have hall : cs.all (·.oneCell') = true := by rw [hcs]; exact lS_one _ _
   have HR := Lib.hid (show stV (perT ts n) (fun _ => 0) = .agg cs by rw [hcs]; rfl)
   have HBel := Lib.hid (below_setRow (cs := cs) HW.out (Nat.le_refl _))
   clear hcs
   go_wp2_with (first
    | (refine wpList_load_row rfl 55 _ rfl (w.heap.size + 1) rfl 55 cs (0, 0) _ hrb Try.underlying55 rfl (by rw [hsz]; kernel_rfl) ?_)
    | (refine wpList_store_row rfl 55 _ _ rfl w.heap.size cs rfl rfl 55 _ hra (by rw [hsz]; kernel_rfl) (by rw [hsz0, hsz]) hall ?_))
   refine bodyPost_ret (v := .agg cs) ?_ rfl ?_
   ·exact results_cell_row Try.results20 _ _ w.heap.size 55 cs (0, 0) _ rfl (setRow_heap wa w.heap.size _ cs _ _ hra) Try.underlying55 rfl (by rw [hsz]; kernel_rfl)
   ·exact ⟨by rw [HR.out], HBel.out⟩
end Go.Proofs.Ytokljoajalmkfaa
