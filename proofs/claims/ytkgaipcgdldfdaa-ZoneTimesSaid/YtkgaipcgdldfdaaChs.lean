/- The reference's choices: they become smaller as the program's span does. -/
import Derived.Test.YtkgaipcgdldfdaaMid2
import Derived.Test.YtkgaipcgdldfdaaPt
namespace Go.Proofs.Ytkgaipcgdldfdaa
open Go.RowKit
set_option linter.unusedVariables false

theorem ref_start (w : World) : Calls Try.prog 90 #[] w fun e w' => e = .returned (.pointer (some ⟨w.heap.size, 0, none⟩)) ∧ w' = w.alloc (.cells sp0.cs 108) := by
  go_enter Try.func90, Try.ntmps90
  go_wp2_with fail
  go_ret
  exact ⟨rfl, rfl⟩
def leastF (s : Sp) (xn xd : Int) (op : Bool) : Sp :=
  if 0 < (cmpR xn xd s.ln s.ld).1 then { s with ln := xn, ld := xd, lo := op } else if (cmpR xn xd s.ln s.ld).1 = 0 then { s with lo := s.lo || op } else s
def mostF (s : Sp) (xn xd : Int) (op : Bool) : Sp :=
  if s.nh = true then { s with hn := xn, hd := xd, ho := op, nh := false } else if (cmpR xn xd s.hn s.hd).1 < 0 then { s with hn := xn, hd := xd, ho := op, nh := false } else if (cmpR xn xd s.hn s.hd).1 = 0 then { s with ho := s.ho || op } else s
theorem cmpR_val (a b c d : Int) : (cmpR a b c d).1 = -1 ∨ (cmpR a b c d).1 = 0 ∨ (cmpR a b c d).1 = 1 := by rw [← cm_eq]; exact cmR_val a b c d
theorem cutF_below {s : Sp} {xn xd l : Int} (h : spE l = 0) (h2 : (cutY xn xd l false).2 = 0) : cutF s xn xd l false = mostF s (cutY xn xd l false).1.1 (cutY xn xd l false).1.2 (spS l) := by
  unfold cutF mostF
  simp only [cm_eq]
  rw [if_neg (by omega), if_neg (by omega), if_neg (by simp)]
theorem cutF_above {s : Sp} {xn xd l : Int} (h : spE l = 0) (h2 : (cutY xn xd l true).2 = 0) : cutF s xn xd l true = leastF s (cutY xn xd l true).1.1 (cutY xn xd l true).1.2 (spS l) := by
  unfold cutF leastF
  simp only [cm_eq]
  rw [if_neg (by omega), if_neg (by omega), if_pos trivial]
  obtain ⟨K, hK⟩ : ∃ K, K = (cmpR (cutY xn xd l true).1.1 (cutY xn xd l true).1.2 s.ln s.ld).1 := ⟨_, rfl⟩
  rw [← hK]
  have e1 : (-K < 0) = (0 < K) := propext (by omega)
  have e2 : (-K = 0) = (K = 0) := propext (by omega)
  simp only [e1, e2]
theorem cutF_none {s : Sp} {xn xd l : Int} {ab : Bool} (h : ¬ spE l = 0) : cutF s xn xd l ab = s := by unfold cutF; rw [if_pos h]
theorem cutF_bad {s : Sp} {xn xd l : Int} {ab : Bool} (h : spE l = 0) (h2 : ¬ (cutY xn xd l ab).2 = 0) : cutF s xn xd l ab = { s with wd := true } := by unfold cutF; rw [if_neg (by omega), if_pos h2]
theorem sub_cutY (xn xd l : Int) : subR xn xd (spC l) 1 = cutY xn xd l true := by
  unfold subR cutY
  have := spC_bd l
  rw [if_pos rfl, show wrap64 (- spC l) = - spC l by unfold wrap64; omega]
theorem hp_split {w : World} {b : Nat} {s : Sp} {t : TypeId} (h : w.heap[b]? = some (.cells s.cs t (0, 0))) :
    (w.cell? ⟨b, 0, none⟩ = some (.int .i64 s.ln) ∧ w.cell? ⟨b, 1, none⟩ = some (.int .i64 s.ld) ∧ w.cell? ⟨b, 2, none⟩ = some (.int .i64 s.hn) ∧ w.cell? ⟨b, 3, none⟩ = some (.int .i64 s.hd) ∧ w.cell? ⟨b, 4, none⟩ = some (.bool s.lo) ∧ w.cell? ⟨b, 5, none⟩ = some (.bool s.ho) ∧ w.cell? ⟨b, 6, none⟩ = some (.bool s.nh) ∧ w.cell? ⟨b, 7, none⟩ = some (.bool s.wd)) :=
  ⟨cell_of_row _ b 0 _ _ _ h, cell_of_row _ b 1 _ _ _ h, cell_of_row _ b 2 _ _ _ h, cell_of_row _ b 3 _ _ _ h, cell_of_row _ b 4 _ _ _ h, cell_of_row _ b 5 _ _ _ h, cell_of_row _ b 6 _ _ _ h, cell_of_row _ b 7 _ _ _ h⟩
theorem hp_frees {w : World} {b : Nat} {s : Sp} {t : TypeId} (h : w.heap[b]? = some (.cells s.cs t (0, 0))) (i : Nat) : w.frozen? ⟨b, i, none⟩ = false := frozen_of_row _ b i _ _ h
set_option maxRecDepth 100000 in
set_option maxHeartbeats 4000000 in
theorem ref_least (sb : Nat) (s : Sp) (xn xd : Int) (op : Bool) (w : World) (hs : w.heap[sb]? = some (.cells s.cs 108 (0, 0))) :
    Calls Try.prog 135 #[.pointer (some ⟨sb, 0, none⟩), .agg #[.int .i64 xn, .int .i64 xd], .bool op] w fun e w' => e = .returned (.tuple #[]) ∧ w'.heap[sb]? = some (.cells (leastF s xn xd op).cs 108 (0, 0)) ∧ w.grownBy w' (some sb) := by
  have hsb : sb < w.heap.size := (Array.getElem?_eq_some_iff.1 hs).1
  obtain ⟨ln, ld, hn, hd, lo, ho, nh, wd⟩ := s
  have HFF := Lib.hid (show leastF ⟨ln, ld, hn, hd, lo, ho, nh, wd⟩ xn xd op = if 0 < (cmpR xn xd ln ld).1 then ⟨xn, xd, hn, hd, op, ho, nh, wd⟩ else if (cmpR xn xd ln ld).1 = 0 then ⟨ln, ld, hn, hd, lo || op, ho, nh, wd⟩ else ⟨ln, ld, hn, hd, lo, ho, nh, wd⟩ from rfl)
  have hS2 := (heap_alloc_old w (.cells #[.int .i64 xn, .int .i64 xd] 48) hsb).trans hs
  have y0 := cell_of_row _ w.heap.size 0 _ _ _ (heap_alloc_new w (.cells #[.int .i64 xn, .int .i64 xd] 48))
  have y1 := cell_of_row _ w.heap.size 1 _ _ _ (heap_alloc_new w (.cells #[.int .i64 xn, .int .i64 xd] 48))
  have hGV := World.grownBy_alloc w (.cells #[.int .i64 xn, .int .i64 xd] 48) (some sb)
  have hyb : w.heap.size ≠ sb := by omega
  have HC := Lib.hid (fun W => r1_cmp xn xd ln ld W)
  have hkv := cmpR_val xn xd ln ld
  generalize cmpR xn xd ln ld = K at *
  clear hs
  obtain ⟨k, k2⟩ := K
  simp only at hkv HFF
  go_enter Try.func135, Try.ntmps135
  go_upto_region 1 with fail
  generalize w.alloc (.cells #[.int .i64 xn, .int .i64 xd] 48) = W at *
  have s0 : W.cell? ⟨sb, 0, none⟩ = some (.int .i64 ln) := cell_of_row _ sb 0 _ _ _ hS2
  have f0 : W.frozen? ⟨sb, 0, none⟩ = false := frozen_of_row _ sb 0 _ _ hS2
  have s1 : W.cell? ⟨sb, 1, none⟩ = some (.int .i64 ld) := cell_of_row _ sb 1 _ _ _ hS2
  have f1 : W.frozen? ⟨sb, 1, none⟩ = false := frozen_of_row _ sb 1 _ _ hS2
  have s2 : W.cell? ⟨sb, 2, none⟩ = some (.int .i64 hn) := cell_of_row _ sb 2 _ _ _ hS2
  have f2 : W.frozen? ⟨sb, 2, none⟩ = false := frozen_of_row _ sb 2 _ _ hS2
  have s3 : W.cell? ⟨sb, 3, none⟩ = some (.int .i64 hd) := cell_of_row _ sb 3 _ _ _ hS2
  have f3 : W.frozen? ⟨sb, 3, none⟩ = false := frozen_of_row _ sb 3 _ _ hS2
  have s4 : W.cell? ⟨sb, 4, none⟩ = some (.bool lo) := cell_of_row _ sb 4 _ _ _ hS2
  have f4 : W.frozen? ⟨sb, 4, none⟩ = false := frozen_of_row _ sb 4 _ _ hS2
  have s5 : W.cell? ⟨sb, 5, none⟩ = some (.bool ho) := cell_of_row _ sb 5 _ _ _ hS2
  have f5 : W.frozen? ⟨sb, 5, none⟩ = false := frozen_of_row _ sb 5 _ _ hS2
  have s6 : W.cell? ⟨sb, 6, none⟩ = some (.bool nh) := cell_of_row _ sb 6 _ _ _ hS2
  have f6 : W.frozen? ⟨sb, 6, none⟩ = false := frozen_of_row _ sb 6 _ _ hS2
  have s7 : W.cell? ⟨sb, 7, none⟩ = some (.bool wd) := cell_of_row _ sb 7 _ _ _ hS2
  have f7 : W.frozen? ⟨sb, 7, none⟩ = false := frozen_of_row _ sb 7 _ _ hS2
  have HCW := Lib.hid (HC.out W.drew)
  go_wp2_with fail
  go_region_held3 (fun w' => w'.cell? ⟨w.heap.size, 0, none⟩ = some (.int .i64 xn) ∧ w'.cell? ⟨w.heap.size, 1, none⟩ = some (.int .i64 xd) ∧ w'.cell? ⟨sb, 0, none⟩ = some (.int .i64 ln) ∧ w'.cell? ⟨sb, 1, none⟩ = some (.int .i64 ld))
    (first | exact ⟨by assumption, by assumption, by assumption, by assumption⟩ | go_keep)
    (first
      | (go_at_call 117; refine HCW.out.mono ?_; rintro e w8 ⟨he8, hb8⟩; (obtain rfl : e = .returned (.tuple #[.int .i64 k, .int .i64 k2]) := he8); have q0 := keepb (show W.drew.cell? ⟨w.heap.size, 0, none⟩ = _ from y0) hb8; have q1 := keepb (show W.drew.cell? ⟨w.heap.size, 1, none⟩ = _ from y1) hb8; have q2 := keepb (show W.drew.cell? ⟨sb, 0, none⟩ = _ from s0) hb8; have q3 := keepb (show W.drew.cell? ⟨sb, 1, none⟩ = _ from s1) hb8))
  have hS9 := (hb8.block sb (show sb < W.heap.size from (Array.getElem?_eq_some_iff.1 hS2).1)).trans (show W.drew.heap[sb]? = _ from hS2)
  have hG9 : w.grownBy w8 (some sb) := grownBy_trans hGV (grownBy_trans (grownBy_drew _ _) (grownBy_below hb8 _))
  clear hS2 hGV y0 y1 s0 f0 s1 f1 s2 f2 s3 f3 s4 f4 s5 f5 s6 f6 s7 f7 hb8 HCW HC
  have hS2 := hS9
  have hGV := hG9
  have y0 := q0
  have y1 := q1
  clear hS9 hG9 q0 q1 q2 q3
  rcases hkv with rfl | rfl | rfl
  · have HR := Lib.hid (HFF.out.trans ((if_neg (by omega)).trans (if_neg (by omega))))
    have s0 : w8.cell? ⟨sb, 0, none⟩ = some (.int .i64 ln) := cell_of_row _ sb 0 _ _ _ hS2
    have f0 : w8.frozen? ⟨sb, 0, none⟩ = false := frozen_of_row _ sb 0 _ _ hS2
    have s1 : w8.cell? ⟨sb, 1, none⟩ = some (.int .i64 ld) := cell_of_row _ sb 1 _ _ _ hS2
    have f1 : w8.frozen? ⟨sb, 1, none⟩ = false := frozen_of_row _ sb 1 _ _ hS2
    have s2 : w8.cell? ⟨sb, 2, none⟩ = some (.int .i64 hn) := cell_of_row _ sb 2 _ _ _ hS2
    have f2 : w8.frozen? ⟨sb, 2, none⟩ = false := frozen_of_row _ sb 2 _ _ hS2
    have s3 : w8.cell? ⟨sb, 3, none⟩ = some (.int .i64 hd) := cell_of_row _ sb 3 _ _ _ hS2
    have f3 : w8.frozen? ⟨sb, 3, none⟩ = false := frozen_of_row _ sb 3 _ _ hS2
    have s4 : w8.cell? ⟨sb, 4, none⟩ = some (.bool lo) := cell_of_row _ sb 4 _ _ _ hS2
    have f4 : w8.frozen? ⟨sb, 4, none⟩ = false := frozen_of_row _ sb 4 _ _ hS2
    have s5 : w8.cell? ⟨sb, 5, none⟩ = some (.bool ho) := cell_of_row _ sb 5 _ _ _ hS2
    have f5 : w8.frozen? ⟨sb, 5, none⟩ = false := frozen_of_row _ sb 5 _ _ hS2
    have s6 : w8.cell? ⟨sb, 6, none⟩ = some (.bool nh) := cell_of_row _ sb 6 _ _ _ hS2
    have f6 : w8.frozen? ⟨sb, 6, none⟩ = false := frozen_of_row _ sb 6 _ _ hS2
    have s7 : w8.cell? ⟨sb, 7, none⟩ = some (.bool wd) := cell_of_row _ sb 7 _ _ _ hS2
    have f7 : w8.frozen? ⟨sb, 7, none⟩ = false := frozen_of_row _ sb 7 _ _ hS2
    go_wp2_with fail
    first
      | go_end0
      | refine bodyPost_ret (results_none rfl _ _ _) rfl ?_
    exact ⟨rfl, by rw [HR.out]; exact hS2, hGV⟩
  · have HR := Lib.hid (HFF.out.trans ((if_neg (by omega)).trans (if_pos rfl)))
    cases lo
    · skip
      have s0 : w8.cell? ⟨sb, 0, none⟩ = some (.int .i64 ln) := cell_of_row _ sb 0 _ _ _ hS2
      have f0 : w8.frozen? ⟨sb, 0, none⟩ = false := frozen_of_row _ sb 0 _ _ hS2
      have s1 : w8.cell? ⟨sb, 1, none⟩ = some (.int .i64 ld) := cell_of_row _ sb 1 _ _ _ hS2
      have f1 : w8.frozen? ⟨sb, 1, none⟩ = false := frozen_of_row _ sb 1 _ _ hS2
      have s2 : w8.cell? ⟨sb, 2, none⟩ = some (.int .i64 hn) := cell_of_row _ sb 2 _ _ _ hS2
      have f2 : w8.frozen? ⟨sb, 2, none⟩ = false := frozen_of_row _ sb 2 _ _ hS2
      have s3 : w8.cell? ⟨sb, 3, none⟩ = some (.int .i64 hd) := cell_of_row _ sb 3 _ _ _ hS2
      have f3 : w8.frozen? ⟨sb, 3, none⟩ = false := frozen_of_row _ sb 3 _ _ hS2
      have s4 : w8.cell? ⟨sb, 4, none⟩ = some (.bool false) := cell_of_row _ sb 4 _ _ _ hS2
      have f4 : w8.frozen? ⟨sb, 4, none⟩ = false := frozen_of_row _ sb 4 _ _ hS2
      have s5 : w8.cell? ⟨sb, 5, none⟩ = some (.bool ho) := cell_of_row _ sb 5 _ _ _ hS2
      have f5 : w8.frozen? ⟨sb, 5, none⟩ = false := frozen_of_row _ sb 5 _ _ hS2
      have s6 : w8.cell? ⟨sb, 6, none⟩ = some (.bool nh) := cell_of_row _ sb 6 _ _ _ hS2
      have f6 : w8.frozen? ⟨sb, 6, none⟩ = false := frozen_of_row _ sb 6 _ _ hS2
      have s7 : w8.cell? ⟨sb, 7, none⟩ = some (.bool wd) := cell_of_row _ sb 7 _ _ _ hS2
      have f7 : w8.frozen? ⟨sb, 7, none⟩ = false := frozen_of_row _ sb 7 _ _ hS2
      go_wp2_with fail
      first
        | go_end0
        | refine bodyPost_ret (results_none rfl _ _ _) rfl ?_
      have k0 := heap_setCell_same _ sb 4 _ _ (.bool op) hS2
      exact ⟨rfl, by rw [HR.out]; exact k0, (grown_set hGV)⟩
    · skip
      have s0 : w8.cell? ⟨sb, 0, none⟩ = some (.int .i64 ln) := cell_of_row _ sb 0 _ _ _ hS2
      have f0 : w8.frozen? ⟨sb, 0, none⟩ = false := frozen_of_row _ sb 0 _ _ hS2
      have s1 : w8.cell? ⟨sb, 1, none⟩ = some (.int .i64 ld) := cell_of_row _ sb 1 _ _ _ hS2
      have f1 : w8.frozen? ⟨sb, 1, none⟩ = false := frozen_of_row _ sb 1 _ _ hS2
      have s2 : w8.cell? ⟨sb, 2, none⟩ = some (.int .i64 hn) := cell_of_row _ sb 2 _ _ _ hS2
      have f2 : w8.frozen? ⟨sb, 2, none⟩ = false := frozen_of_row _ sb 2 _ _ hS2
      have s3 : w8.cell? ⟨sb, 3, none⟩ = some (.int .i64 hd) := cell_of_row _ sb 3 _ _ _ hS2
      have f3 : w8.frozen? ⟨sb, 3, none⟩ = false := frozen_of_row _ sb 3 _ _ hS2
      have s4 : w8.cell? ⟨sb, 4, none⟩ = some (.bool true) := cell_of_row _ sb 4 _ _ _ hS2
      have f4 : w8.frozen? ⟨sb, 4, none⟩ = false := frozen_of_row _ sb 4 _ _ hS2
      have s5 : w8.cell? ⟨sb, 5, none⟩ = some (.bool ho) := cell_of_row _ sb 5 _ _ _ hS2
      have f5 : w8.frozen? ⟨sb, 5, none⟩ = false := frozen_of_row _ sb 5 _ _ hS2
      have s6 : w8.cell? ⟨sb, 6, none⟩ = some (.bool nh) := cell_of_row _ sb 6 _ _ _ hS2
      have f6 : w8.frozen? ⟨sb, 6, none⟩ = false := frozen_of_row _ sb 6 _ _ hS2
      have s7 : w8.cell? ⟨sb, 7, none⟩ = some (.bool wd) := cell_of_row _ sb 7 _ _ _ hS2
      have f7 : w8.frozen? ⟨sb, 7, none⟩ = false := frozen_of_row _ sb 7 _ _ hS2
      go_wp2_with fail
      first
        | go_end0
        | refine bodyPost_ret (results_none rfl _ _ _) rfl ?_
      have k0 := heap_setCell_same _ sb 4 _ _ (.bool true) hS2
      exact ⟨rfl, by rw [HR.out]; exact k0, (grown_set hGV)⟩
  · have HR := Lib.hid (HFF.out.trans (if_pos (by omega)))
    have s0 : w8.cell? ⟨sb, 0, none⟩ = some (.int .i64 ln) := cell_of_row _ sb 0 _ _ _ hS2
    have f0 : w8.frozen? ⟨sb, 0, none⟩ = false := frozen_of_row _ sb 0 _ _ hS2
    have s1 : w8.cell? ⟨sb, 1, none⟩ = some (.int .i64 ld) := cell_of_row _ sb 1 _ _ _ hS2
    have f1 : w8.frozen? ⟨sb, 1, none⟩ = false := frozen_of_row _ sb 1 _ _ hS2
    have s2 : w8.cell? ⟨sb, 2, none⟩ = some (.int .i64 hn) := cell_of_row _ sb 2 _ _ _ hS2
    have f2 : w8.frozen? ⟨sb, 2, none⟩ = false := frozen_of_row _ sb 2 _ _ hS2
    have s3 : w8.cell? ⟨sb, 3, none⟩ = some (.int .i64 hd) := cell_of_row _ sb 3 _ _ _ hS2
    have f3 : w8.frozen? ⟨sb, 3, none⟩ = false := frozen_of_row _ sb 3 _ _ hS2
    have s4 : w8.cell? ⟨sb, 4, none⟩ = some (.bool lo) := cell_of_row _ sb 4 _ _ _ hS2
    have f4 : w8.frozen? ⟨sb, 4, none⟩ = false := frozen_of_row _ sb 4 _ _ hS2
    have s5 : w8.cell? ⟨sb, 5, none⟩ = some (.bool ho) := cell_of_row _ sb 5 _ _ _ hS2
    have f5 : w8.frozen? ⟨sb, 5, none⟩ = false := frozen_of_row _ sb 5 _ _ hS2
    have s6 : w8.cell? ⟨sb, 6, none⟩ = some (.bool nh) := cell_of_row _ sb 6 _ _ _ hS2
    have f6 : w8.frozen? ⟨sb, 6, none⟩ = false := frozen_of_row _ sb 6 _ _ hS2
    have s7 : w8.cell? ⟨sb, 7, none⟩ = some (.bool wd) := cell_of_row _ sb 7 _ _ _ hS2
    have f7 : w8.frozen? ⟨sb, 7, none⟩ = false := frozen_of_row _ sb 7 _ _ hS2
    go_wp2_with fail
    first
      | go_end0
      | refine bodyPost_ret (results_none rfl _ _ _) rfl ?_
    have k0 := heap_setCell_same _ sb 0 _ _ (.int .i64 xn) hS2
    have k1 := heap_setCell_same _ sb 1 _ _ (.int .i64 xd) k0
    have k2 := heap_setCell_same _ sb 4 _ _ (.bool op) k1
    exact ⟨rfl, by rw [HR.out]; exact k2, (grown_set (grown_set (grown_set hGV)))⟩
set_option maxRecDepth 100000 in
set_option maxHeartbeats 4000000 in
theorem ref_most (sb : Nat) (s : Sp) (xn xd : Int) (op : Bool) (w : World) (hs : w.heap[sb]? = some (.cells s.cs 108 (0, 0))) :
    Calls Try.prog 134 #[.pointer (some ⟨sb, 0, none⟩), .agg #[.int .i64 xn, .int .i64 xd], .bool op] w fun e w' => e = .returned (.tuple #[]) ∧ w'.heap[sb]? = some (.cells (mostF s xn xd op).cs 108 (0, 0)) ∧ w.grownBy w' (some sb) := by
  have hsb : sb < w.heap.size := (Array.getElem?_eq_some_iff.1 hs).1
  obtain ⟨ln, ld, hn, hd, lo, ho, nh, wd⟩ := s
  have HFF := Lib.hid (show mostF ⟨ln, ld, hn, hd, lo, ho, nh, wd⟩ xn xd op = if nh = true then ⟨ln, ld, xn, xd, lo, op, false, wd⟩ else if (cmpR xn xd hn hd).1 < 0 then ⟨ln, ld, xn, xd, lo, op, false, wd⟩ else if (cmpR xn xd hn hd).1 = 0 then ⟨ln, ld, hn, hd, lo, ho || op, nh, wd⟩ else ⟨ln, ld, hn, hd, lo, ho, nh, wd⟩ from rfl)
  have hS2 := (heap_alloc_old w (.cells #[.int .i64 xn, .int .i64 xd] 48) hsb).trans hs
  have y0 := cell_of_row _ w.heap.size 0 _ _ _ (heap_alloc_new w (.cells #[.int .i64 xn, .int .i64 xd] 48))
  have y1 := cell_of_row _ w.heap.size 1 _ _ _ (heap_alloc_new w (.cells #[.int .i64 xn, .int .i64 xd] 48))
  have hGV := World.grownBy_alloc w (.cells #[.int .i64 xn, .int .i64 xd] 48) (some sb)
  have hyb : w.heap.size ≠ sb := by omega
  have HC := Lib.hid (fun W => r1_cmp xn xd hn hd W)
  have hkv := cmpR_val xn xd hn hd
  generalize cmpR xn xd hn hd = K at *
  clear hs
  obtain ⟨k, k2⟩ := K
  simp only at hkv HFF
  go_enter Try.func134, Try.ntmps134
  go_upto_region 1 with fail
  generalize w.alloc (.cells #[.int .i64 xn, .int .i64 xd] 48) = W at *
  have s0 : W.cell? ⟨sb, 0, none⟩ = some (.int .i64 ln) := cell_of_row _ sb 0 _ _ _ hS2
  have f0 : W.frozen? ⟨sb, 0, none⟩ = false := frozen_of_row _ sb 0 _ _ hS2
  have s1 : W.cell? ⟨sb, 1, none⟩ = some (.int .i64 ld) := cell_of_row _ sb 1 _ _ _ hS2
  have f1 : W.frozen? ⟨sb, 1, none⟩ = false := frozen_of_row _ sb 1 _ _ hS2
  have s2 : W.cell? ⟨sb, 2, none⟩ = some (.int .i64 hn) := cell_of_row _ sb 2 _ _ _ hS2
  have f2 : W.frozen? ⟨sb, 2, none⟩ = false := frozen_of_row _ sb 2 _ _ hS2
  have s3 : W.cell? ⟨sb, 3, none⟩ = some (.int .i64 hd) := cell_of_row _ sb 3 _ _ _ hS2
  have f3 : W.frozen? ⟨sb, 3, none⟩ = false := frozen_of_row _ sb 3 _ _ hS2
  have s4 : W.cell? ⟨sb, 4, none⟩ = some (.bool lo) := cell_of_row _ sb 4 _ _ _ hS2
  have f4 : W.frozen? ⟨sb, 4, none⟩ = false := frozen_of_row _ sb 4 _ _ hS2
  have s5 : W.cell? ⟨sb, 5, none⟩ = some (.bool ho) := cell_of_row _ sb 5 _ _ _ hS2
  have f5 : W.frozen? ⟨sb, 5, none⟩ = false := frozen_of_row _ sb 5 _ _ hS2
  have s6 : W.cell? ⟨sb, 6, none⟩ = some (.bool nh) := cell_of_row _ sb 6 _ _ _ hS2
  have f6 : W.frozen? ⟨sb, 6, none⟩ = false := frozen_of_row _ sb 6 _ _ hS2
  have s7 : W.cell? ⟨sb, 7, none⟩ = some (.bool wd) := cell_of_row _ sb 7 _ _ _ hS2
  have f7 : W.frozen? ⟨sb, 7, none⟩ = false := frozen_of_row _ sb 7 _ _ hS2
  have HCW := Lib.hid (HC.out W.drew)
  go_wp2_with fail
  go_region_held3 (fun w' => w'.cell? ⟨w.heap.size, 0, none⟩ = some (.int .i64 xn) ∧ w'.cell? ⟨w.heap.size, 1, none⟩ = some (.int .i64 xd) ∧ w'.cell? ⟨sb, 2, none⟩ = some (.int .i64 hn) ∧ w'.cell? ⟨sb, 3, none⟩ = some (.int .i64 hd))
    (first | exact ⟨by assumption, by assumption, by assumption, by assumption⟩ | go_keep)
    (first
      | (go_at_call 117; refine HCW.out.mono ?_; rintro e w8 ⟨he8, hb8⟩; (obtain rfl : e = .returned (.tuple #[.int .i64 k, .int .i64 k2]) := he8); have q0 := keepb (show W.drew.cell? ⟨w.heap.size, 0, none⟩ = _ from y0) hb8; have q1 := keepb (show W.drew.cell? ⟨w.heap.size, 1, none⟩ = _ from y1) hb8; have q2 := keepb (show W.drew.cell? ⟨sb, 2, none⟩ = _ from s2) hb8; have q3 := keepb (show W.drew.cell? ⟨sb, 3, none⟩ = _ from s3) hb8))
  have hS9 := (hb8.block sb (show sb < W.heap.size from (Array.getElem?_eq_some_iff.1 hS2).1)).trans (show W.drew.heap[sb]? = _ from hS2)
  have hG9 : w.grownBy w8 (some sb) := grownBy_trans hGV (grownBy_trans (grownBy_drew _ _) (grownBy_below hb8 _))
  clear hS2 hGV y0 y1 s0 f0 s1 f1 s2 f2 s3 f3 s4 f4 s5 f5 s6 f6 s7 f7 hb8 HCW HC
  have hS2 := hS9
  have hGV := hG9
  have y0 := q0
  have y1 := q1
  clear hS9 hG9 q0 q1 q2 q3
  cases nh
  rotate_left
  · have HR := Lib.hid (HFF.out.trans (if_pos rfl))
    have s0 : w8.cell? ⟨sb, 0, none⟩ = some (.int .i64 ln) := cell_of_row _ sb 0 _ _ _ hS2
    have f0 : w8.frozen? ⟨sb, 0, none⟩ = false := frozen_of_row _ sb 0 _ _ hS2
    have s1 : w8.cell? ⟨sb, 1, none⟩ = some (.int .i64 ld) := cell_of_row _ sb 1 _ _ _ hS2
    have f1 : w8.frozen? ⟨sb, 1, none⟩ = false := frozen_of_row _ sb 1 _ _ hS2
    have s2 : w8.cell? ⟨sb, 2, none⟩ = some (.int .i64 hn) := cell_of_row _ sb 2 _ _ _ hS2
    have f2 : w8.frozen? ⟨sb, 2, none⟩ = false := frozen_of_row _ sb 2 _ _ hS2
    have s3 : w8.cell? ⟨sb, 3, none⟩ = some (.int .i64 hd) := cell_of_row _ sb 3 _ _ _ hS2
    have f3 : w8.frozen? ⟨sb, 3, none⟩ = false := frozen_of_row _ sb 3 _ _ hS2
    have s4 : w8.cell? ⟨sb, 4, none⟩ = some (.bool lo) := cell_of_row _ sb 4 _ _ _ hS2
    have f4 : w8.frozen? ⟨sb, 4, none⟩ = false := frozen_of_row _ sb 4 _ _ hS2
    have s5 : w8.cell? ⟨sb, 5, none⟩ = some (.bool ho) := cell_of_row _ sb 5 _ _ _ hS2
    have f5 : w8.frozen? ⟨sb, 5, none⟩ = false := frozen_of_row _ sb 5 _ _ hS2
    have s6 : w8.cell? ⟨sb, 6, none⟩ = some (.bool true) := cell_of_row _ sb 6 _ _ _ hS2
    have f6 : w8.frozen? ⟨sb, 6, none⟩ = false := frozen_of_row _ sb 6 _ _ hS2
    have s7 : w8.cell? ⟨sb, 7, none⟩ = some (.bool wd) := cell_of_row _ sb 7 _ _ _ hS2
    have f7 : w8.frozen? ⟨sb, 7, none⟩ = false := frozen_of_row _ sb 7 _ _ hS2
    go_wp2_with fail
    first
      | go_end0
      | refine bodyPost_ret (results_none rfl _ _ _) rfl ?_
    have k0 := heap_setCell_same _ sb 2 _ _ (.int .i64 xn) hS2
    have k1 := heap_setCell_same _ sb 3 _ _ (.int .i64 xd) k0
    have k2 := heap_setCell_same _ sb 5 _ _ (.bool op) k1
    have k3 := heap_setCell_same _ sb 6 _ _ (.bool false) k2
    exact ⟨rfl, by rw [HR.out]; exact k3, (grown_set (grown_set (grown_set (grown_set hGV))))⟩
  rcases hkv with rfl | rfl | rfl
  · have HR := Lib.hid (HFF.out.trans ((if_neg (by simp)).trans (if_pos (by omega))))
    have s0 : w8.cell? ⟨sb, 0, none⟩ = some (.int .i64 ln) := cell_of_row _ sb 0 _ _ _ hS2
    have f0 : w8.frozen? ⟨sb, 0, none⟩ = false := frozen_of_row _ sb 0 _ _ hS2
    have s1 : w8.cell? ⟨sb, 1, none⟩ = some (.int .i64 ld) := cell_of_row _ sb 1 _ _ _ hS2
    have f1 : w8.frozen? ⟨sb, 1, none⟩ = false := frozen_of_row _ sb 1 _ _ hS2
    have s2 : w8.cell? ⟨sb, 2, none⟩ = some (.int .i64 hn) := cell_of_row _ sb 2 _ _ _ hS2
    have f2 : w8.frozen? ⟨sb, 2, none⟩ = false := frozen_of_row _ sb 2 _ _ hS2
    have s3 : w8.cell? ⟨sb, 3, none⟩ = some (.int .i64 hd) := cell_of_row _ sb 3 _ _ _ hS2
    have f3 : w8.frozen? ⟨sb, 3, none⟩ = false := frozen_of_row _ sb 3 _ _ hS2
    have s4 : w8.cell? ⟨sb, 4, none⟩ = some (.bool lo) := cell_of_row _ sb 4 _ _ _ hS2
    have f4 : w8.frozen? ⟨sb, 4, none⟩ = false := frozen_of_row _ sb 4 _ _ hS2
    have s5 : w8.cell? ⟨sb, 5, none⟩ = some (.bool ho) := cell_of_row _ sb 5 _ _ _ hS2
    have f5 : w8.frozen? ⟨sb, 5, none⟩ = false := frozen_of_row _ sb 5 _ _ hS2
    have s6 : w8.cell? ⟨sb, 6, none⟩ = some (.bool false) := cell_of_row _ sb 6 _ _ _ hS2
    have f6 : w8.frozen? ⟨sb, 6, none⟩ = false := frozen_of_row _ sb 6 _ _ hS2
    have s7 : w8.cell? ⟨sb, 7, none⟩ = some (.bool wd) := cell_of_row _ sb 7 _ _ _ hS2
    have f7 : w8.frozen? ⟨sb, 7, none⟩ = false := frozen_of_row _ sb 7 _ _ hS2
    go_wp2_with fail
    first
      | go_end0
      | refine bodyPost_ret (results_none rfl _ _ _) rfl ?_
    have k0 := heap_setCell_same _ sb 2 _ _ (.int .i64 xn) hS2
    have k1 := heap_setCell_same _ sb 3 _ _ (.int .i64 xd) k0
    have k2 := heap_setCell_same _ sb 5 _ _ (.bool op) k1
    have k3 := heap_setCell_same _ sb 6 _ _ (.bool false) k2
    exact ⟨rfl, by rw [HR.out]; exact k3, (grown_set (grown_set (grown_set (grown_set hGV))))⟩
  · have HR := Lib.hid (HFF.out.trans ((if_neg (by simp)).trans ((if_neg (by omega)).trans (if_pos rfl))))
    cases ho
    · skip
      have s0 : w8.cell? ⟨sb, 0, none⟩ = some (.int .i64 ln) := cell_of_row _ sb 0 _ _ _ hS2
      have f0 : w8.frozen? ⟨sb, 0, none⟩ = false := frozen_of_row _ sb 0 _ _ hS2
      have s1 : w8.cell? ⟨sb, 1, none⟩ = some (.int .i64 ld) := cell_of_row _ sb 1 _ _ _ hS2
      have f1 : w8.frozen? ⟨sb, 1, none⟩ = false := frozen_of_row _ sb 1 _ _ hS2
      have s2 : w8.cell? ⟨sb, 2, none⟩ = some (.int .i64 hn) := cell_of_row _ sb 2 _ _ _ hS2
      have f2 : w8.frozen? ⟨sb, 2, none⟩ = false := frozen_of_row _ sb 2 _ _ hS2
      have s3 : w8.cell? ⟨sb, 3, none⟩ = some (.int .i64 hd) := cell_of_row _ sb 3 _ _ _ hS2
      have f3 : w8.frozen? ⟨sb, 3, none⟩ = false := frozen_of_row _ sb 3 _ _ hS2
      have s4 : w8.cell? ⟨sb, 4, none⟩ = some (.bool lo) := cell_of_row _ sb 4 _ _ _ hS2
      have f4 : w8.frozen? ⟨sb, 4, none⟩ = false := frozen_of_row _ sb 4 _ _ hS2
      have s5 : w8.cell? ⟨sb, 5, none⟩ = some (.bool false) := cell_of_row _ sb 5 _ _ _ hS2
      have f5 : w8.frozen? ⟨sb, 5, none⟩ = false := frozen_of_row _ sb 5 _ _ hS2
      have s6 : w8.cell? ⟨sb, 6, none⟩ = some (.bool false) := cell_of_row _ sb 6 _ _ _ hS2
      have f6 : w8.frozen? ⟨sb, 6, none⟩ = false := frozen_of_row _ sb 6 _ _ hS2
      have s7 : w8.cell? ⟨sb, 7, none⟩ = some (.bool wd) := cell_of_row _ sb 7 _ _ _ hS2
      have f7 : w8.frozen? ⟨sb, 7, none⟩ = false := frozen_of_row _ sb 7 _ _ hS2
      go_wp2_with fail
      first
        | go_end0
        | refine bodyPost_ret (results_none rfl _ _ _) rfl ?_
      have k0 := heap_setCell_same _ sb 5 _ _ (.bool op) hS2
      exact ⟨rfl, by rw [HR.out]; exact k0, (grown_set hGV)⟩
    · skip
      have s0 : w8.cell? ⟨sb, 0, none⟩ = some (.int .i64 ln) := cell_of_row _ sb 0 _ _ _ hS2
      have f0 : w8.frozen? ⟨sb, 0, none⟩ = false := frozen_of_row _ sb 0 _ _ hS2
      have s1 : w8.cell? ⟨sb, 1, none⟩ = some (.int .i64 ld) := cell_of_row _ sb 1 _ _ _ hS2
      have f1 : w8.frozen? ⟨sb, 1, none⟩ = false := frozen_of_row _ sb 1 _ _ hS2
      have s2 : w8.cell? ⟨sb, 2, none⟩ = some (.int .i64 hn) := cell_of_row _ sb 2 _ _ _ hS2
      have f2 : w8.frozen? ⟨sb, 2, none⟩ = false := frozen_of_row _ sb 2 _ _ hS2
      have s3 : w8.cell? ⟨sb, 3, none⟩ = some (.int .i64 hd) := cell_of_row _ sb 3 _ _ _ hS2
      have f3 : w8.frozen? ⟨sb, 3, none⟩ = false := frozen_of_row _ sb 3 _ _ hS2
      have s4 : w8.cell? ⟨sb, 4, none⟩ = some (.bool lo) := cell_of_row _ sb 4 _ _ _ hS2
      have f4 : w8.frozen? ⟨sb, 4, none⟩ = false := frozen_of_row _ sb 4 _ _ hS2
      have s5 : w8.cell? ⟨sb, 5, none⟩ = some (.bool true) := cell_of_row _ sb 5 _ _ _ hS2
      have f5 : w8.frozen? ⟨sb, 5, none⟩ = false := frozen_of_row _ sb 5 _ _ hS2
      have s6 : w8.cell? ⟨sb, 6, none⟩ = some (.bool false) := cell_of_row _ sb 6 _ _ _ hS2
      have f6 : w8.frozen? ⟨sb, 6, none⟩ = false := frozen_of_row _ sb 6 _ _ hS2
      have s7 : w8.cell? ⟨sb, 7, none⟩ = some (.bool wd) := cell_of_row _ sb 7 _ _ _ hS2
      have f7 : w8.frozen? ⟨sb, 7, none⟩ = false := frozen_of_row _ sb 7 _ _ hS2
      go_wp2_with fail
      first
        | go_end0
        | refine bodyPost_ret (results_none rfl _ _ _) rfl ?_
      have k0 := heap_setCell_same _ sb 5 _ _ (.bool true) hS2
      exact ⟨rfl, by rw [HR.out]; exact k0, (grown_set hGV)⟩
  · have HR := Lib.hid (HFF.out.trans ((if_neg (by simp)).trans ((if_neg (by omega)).trans (if_neg (by omega)))))
    have s0 : w8.cell? ⟨sb, 0, none⟩ = some (.int .i64 ln) := cell_of_row _ sb 0 _ _ _ hS2
    have f0 : w8.frozen? ⟨sb, 0, none⟩ = false := frozen_of_row _ sb 0 _ _ hS2
    have s1 : w8.cell? ⟨sb, 1, none⟩ = some (.int .i64 ld) := cell_of_row _ sb 1 _ _ _ hS2
    have f1 : w8.frozen? ⟨sb, 1, none⟩ = false := frozen_of_row _ sb 1 _ _ hS2
    have s2 : w8.cell? ⟨sb, 2, none⟩ = some (.int .i64 hn) := cell_of_row _ sb 2 _ _ _ hS2
    have f2 : w8.frozen? ⟨sb, 2, none⟩ = false := frozen_of_row _ sb 2 _ _ hS2
    have s3 : w8.cell? ⟨sb, 3, none⟩ = some (.int .i64 hd) := cell_of_row _ sb 3 _ _ _ hS2
    have f3 : w8.frozen? ⟨sb, 3, none⟩ = false := frozen_of_row _ sb 3 _ _ hS2
    have s4 : w8.cell? ⟨sb, 4, none⟩ = some (.bool lo) := cell_of_row _ sb 4 _ _ _ hS2
    have f4 : w8.frozen? ⟨sb, 4, none⟩ = false := frozen_of_row _ sb 4 _ _ hS2
    have s5 : w8.cell? ⟨sb, 5, none⟩ = some (.bool ho) := cell_of_row _ sb 5 _ _ _ hS2
    have f5 : w8.frozen? ⟨sb, 5, none⟩ = false := frozen_of_row _ sb 5 _ _ hS2
    have s6 : w8.cell? ⟨sb, 6, none⟩ = some (.bool false) := cell_of_row _ sb 6 _ _ _ hS2
    have f6 : w8.frozen? ⟨sb, 6, none⟩ = false := frozen_of_row _ sb 6 _ _ hS2
    have s7 : w8.cell? ⟨sb, 7, none⟩ = some (.bool wd) := cell_of_row _ sb 7 _ _ _ hS2
    have f7 : w8.frozen? ⟨sb, 7, none⟩ = false := frozen_of_row _ sb 7 _ _ hS2
    go_wp2_with fail
    first
      | go_end0
      | refine bodyPost_ret (results_none rfl _ _ _) rfl ?_
    exact ⟨rfl, by rw [HR.out]; exact hS2, hGV⟩
set_option maxRecDepth 100000 in
set_option maxHeartbeats 4000000 in
theorem ref_below (sb : Nat) (s : Sp) (xn xd l : Int) (w : World) (hs : w.heap[sb]? = some (.cells s.cs 108 (0, 0))) :
    Calls Try.prog 92 #[.pointer (some ⟨sb, 0, none⟩), .agg #[.int .i64 xn, .int .i64 xd], .int .i64 l] w fun e w' => e = .returned (.tuple #[]) ∧ w'.heap[sb]? = some (.cells (cutF s xn xd l false).cs 108 (0, 0)) ∧ w.grownBy w' (some sb) := by
  have hsb : sb < w.heap.size := (Array.getElem?_eq_some_iff.1 hs).1
  have hloc0 := Loc.one w (.cells #[.int .i64 xn, .int .i64 xd] 48) none
  have Hold := Lib.hid ((heap_alloc_old w (.cells #[.int .i64 xn, .int .i64 xd] 48) hsb).trans hs)
  have HN := Lib.hid (cutF_none (s := s) (xn := xn) (xd := xd) (l := l) (ab := false))
  have HB := Lib.hid (cutF_bad (s := s) (xn := xn) (xd := xd) (l := l) (ab := false))
  have HY := Lib.hid (cutF_below (s := s) (xn := xn) (xd := xd) (l := l))
  have HA := Lib.hid (show addR xn xd (spC l) 1 = cutY xn xd l false from rfl)
  clear hs
  by_cases hE : spE l = 0
  rotate_left
  · have hEb : (spE l != 0) = true := by simpa using hE
    have HR := Lib.hid (HN.out hE)
    clear hE
    go_enter Try.func92, Try.ntmps92
    go_wp2_with (go_at_call 131; refine (ref_split _ _).mono ?_; rintro e w9 ⟨rfl, rfl⟩)
    refine bodyPost_ret (results_none rfl _ _ _) rfl ?_
    exact ⟨rfl, by rw [HR.out]; exact Hold.out, World.grownBy_alloc _ _ _⟩
  have hEb : (spE l != 0) = false := by simpa using hE
  have HB2 := Lib.hid (HB.out hE)
  have HY2 := Lib.hid (HY.out hE)
  clear hE HN HB HY
  go_enter Try.func92, Try.ntmps92
  go_wp2_with (go_at_call 131; refine (ref_split _ _).mono ?_; rintro e w9 ⟨rfl, rfl⟩)
  refine (r1_add xn xd (spC l) 1 _).mono ?_
  rw [HA.out]
  generalize cutY xn xd l false = Y at HB2 HY2
  obtain ⟨⟨yn, yd⟩, ye⟩ := Y
  clear HA
  rintro e w2 ⟨he, hb2⟩
  obtain rfl : e = .returned (.tuple #[.agg #[.int .i64 yn, .int .i64 yd], .int .i64 ye]) := he
  have hbx := bal hb2 (.cells #[.int .i64 yn, .int .i64 yd] 48)
  have hS2 := (hbx.block sb (by have := hloc0.size; simp at *; omega)).trans Hold.out
  have y0 := cell_of_row _ w2.heap.size 0 _ _ _ (heap_alloc_new w2 (.cells #[.int .i64 yn, .int .i64 yd] 48))
  have y1 := cell_of_row _ w2.heap.size 1 _ _ _ (heap_alloc_new w2 (.cells #[.int .i64 yn, .int .i64 yd] 48))
  have hGV := grownBy_trans (World.grownBy_alloc w (.cells #[.int .i64 xn, .int .i64 xd] 48) (some sb)) (grownBy_below hbx (some sb))
  clear hb2 hbx hloc0
  by_cases he : ye = 0
  rotate_left
  · have heb : (ye != 0) = true := by simpa using he
    have HR := Lib.hid (HB2.out he)
    clear he
    obtain ⟨ln, ld, hn, hd, lo, ho, nh, wd⟩ := s
    go_upto_region 5 with fail
    generalize w2.alloc (.cells #[.int .i64 yn, .int .i64 yd] 48) = V at *
    have s0 : V.cell? ⟨sb, 0, none⟩ = some (.int .i64 ln) := cell_of_row _ sb 0 _ _ _ hS2
    have f0 : V.frozen? ⟨sb, 0, none⟩ = false := frozen_of_row _ sb 0 _ _ hS2
    have s1 : V.cell? ⟨sb, 1, none⟩ = some (.int .i64 ld) := cell_of_row _ sb 1 _ _ _ hS2
    have f1 : V.frozen? ⟨sb, 1, none⟩ = false := frozen_of_row _ sb 1 _ _ hS2
    have s2 : V.cell? ⟨sb, 2, none⟩ = some (.int .i64 hn) := cell_of_row _ sb 2 _ _ _ hS2
    have f2 : V.frozen? ⟨sb, 2, none⟩ = false := frozen_of_row _ sb 2 _ _ hS2
    have s3 : V.cell? ⟨sb, 3, none⟩ = some (.int .i64 hd) := cell_of_row _ sb 3 _ _ _ hS2
    have f3 : V.frozen? ⟨sb, 3, none⟩ = false := frozen_of_row _ sb 3 _ _ hS2
    have s4 : V.cell? ⟨sb, 4, none⟩ = some (.bool lo) := cell_of_row _ sb 4 _ _ _ hS2
    have f4 : V.frozen? ⟨sb, 4, none⟩ = false := frozen_of_row _ sb 4 _ _ hS2
    have s5 : V.cell? ⟨sb, 5, none⟩ = some (.bool ho) := cell_of_row _ sb 5 _ _ _ hS2
    have f5 : V.frozen? ⟨sb, 5, none⟩ = false := frozen_of_row _ sb 5 _ _ hS2
    have s6 : V.cell? ⟨sb, 6, none⟩ = some (.bool nh) := cell_of_row _ sb 6 _ _ _ hS2
    have f6 : V.frozen? ⟨sb, 6, none⟩ = false := frozen_of_row _ sb 6 _ _ hS2
    have s7 : V.cell? ⟨sb, 7, none⟩ = some (.bool wd) := cell_of_row _ sb 7 _ _ _ hS2
    have f7 : V.frozen? ⟨sb, 7, none⟩ = false := frozen_of_row _ sb 7 _ _ hS2
    go_wp2_with fail
    first
      | go_end0
      | refine bodyPost_ret (results_none rfl _ _ _) rfl ?_
    exact ⟨rfl, by rw [HR.out]; exact heap_setCell_same _ sb 7 _ _ _ hS2, grown_set hGV⟩
  obtain rfl : ye = 0 := he
  have HR := Lib.hid (HY2.out rfl)
  go_wp2_with fail
  refine (ref_most sb s yn yd (spS l) _ hS2).mono ?_
  rintro e w3 ⟨rfl, hS3, hg3⟩
  have hG3 := grownBy_trans hGV hg3
  go_wp2_with fail
  first
    | go_end0
    | refine bodyPost_ret (results_none rfl _ _ _) rfl ?_
  exact ⟨rfl, by rw [HR.out]; exact hS3, hG3⟩
set_option maxRecDepth 100000 in
set_option maxHeartbeats 4000000 in
theorem ref_above (sb : Nat) (s : Sp) (xn xd l : Int) (w : World) (hs : w.heap[sb]? = some (.cells s.cs 108 (0, 0))) :
    Calls Try.prog 93 #[.pointer (some ⟨sb, 0, none⟩), .agg #[.int .i64 xn, .int .i64 xd], .int .i64 l] w fun e w' => e = .returned (.tuple #[]) ∧ w'.heap[sb]? = some (.cells (cutF s xn xd l true).cs 108 (0, 0)) ∧ w.grownBy w' (some sb) := by
  have hsb : sb < w.heap.size := (Array.getElem?_eq_some_iff.1 hs).1
  have hloc0 := Loc.one w (.cells #[.int .i64 xn, .int .i64 xd] 48) none
  have Hold := Lib.hid ((heap_alloc_old w (.cells #[.int .i64 xn, .int .i64 xd] 48) hsb).trans hs)
  have HN := Lib.hid (cutF_none (s := s) (xn := xn) (xd := xd) (l := l) (ab := true))
  have HB := Lib.hid (cutF_bad (s := s) (xn := xn) (xd := xd) (l := l) (ab := true))
  have HY := Lib.hid (cutF_above (s := s) (xn := xn) (xd := xd) (l := l))
  have HA := Lib.hid (show subR xn xd (spC l) 1 = cutY xn xd l true from sub_cutY _ _ _)
  clear hs
  by_cases hE : spE l = 0
  rotate_left
  · have hEb : (spE l != 0) = true := by simpa using hE
    have HR := Lib.hid (HN.out hE)
    clear hE
    go_enter Try.func93, Try.ntmps93
    go_wp2_with (go_at_call 131; refine (ref_split _ _).mono ?_; rintro e w9 ⟨rfl, rfl⟩)
    refine bodyPost_ret (results_none rfl _ _ _) rfl ?_
    exact ⟨rfl, by rw [HR.out]; exact Hold.out, World.grownBy_alloc _ _ _⟩
  have hEb : (spE l != 0) = false := by simpa using hE
  have HB2 := Lib.hid (HB.out hE)
  have HY2 := Lib.hid (HY.out hE)
  clear hE HN HB HY
  go_enter Try.func93, Try.ntmps93
  go_wp2_with (go_at_call 131; refine (ref_split _ _).mono ?_; rintro e w9 ⟨rfl, rfl⟩)
  refine (r1_sub xn xd (spC l) 1 _).mono ?_
  rw [HA.out]
  generalize cutY xn xd l true = Y at HB2 HY2
  obtain ⟨⟨yn, yd⟩, ye⟩ := Y
  clear HA
  rintro e w2 ⟨he, hb2⟩
  obtain rfl : e = .returned (.tuple #[.agg #[.int .i64 yn, .int .i64 yd], .int .i64 ye]) := he
  have hbx := bal hb2 (.cells #[.int .i64 yn, .int .i64 yd] 48)
  have hS2 := (hbx.block sb (by have := hloc0.size; simp at *; omega)).trans Hold.out
  have y0 := cell_of_row _ w2.heap.size 0 _ _ _ (heap_alloc_new w2 (.cells #[.int .i64 yn, .int .i64 yd] 48))
  have y1 := cell_of_row _ w2.heap.size 1 _ _ _ (heap_alloc_new w2 (.cells #[.int .i64 yn, .int .i64 yd] 48))
  have hGV := grownBy_trans (World.grownBy_alloc w (.cells #[.int .i64 xn, .int .i64 xd] 48) (some sb)) (grownBy_below hbx (some sb))
  clear hb2 hbx hloc0
  by_cases he : ye = 0
  rotate_left
  · have heb : (ye != 0) = true := by simpa using he
    have HR := Lib.hid (HB2.out he)
    clear he
    obtain ⟨ln, ld, hn, hd, lo, ho, nh, wd⟩ := s
    go_upto_region 5 with fail
    generalize w2.alloc (.cells #[.int .i64 yn, .int .i64 yd] 48) = V at *
    have s0 : V.cell? ⟨sb, 0, none⟩ = some (.int .i64 ln) := cell_of_row _ sb 0 _ _ _ hS2
    have f0 : V.frozen? ⟨sb, 0, none⟩ = false := frozen_of_row _ sb 0 _ _ hS2
    have s1 : V.cell? ⟨sb, 1, none⟩ = some (.int .i64 ld) := cell_of_row _ sb 1 _ _ _ hS2
    have f1 : V.frozen? ⟨sb, 1, none⟩ = false := frozen_of_row _ sb 1 _ _ hS2
    have s2 : V.cell? ⟨sb, 2, none⟩ = some (.int .i64 hn) := cell_of_row _ sb 2 _ _ _ hS2
    have f2 : V.frozen? ⟨sb, 2, none⟩ = false := frozen_of_row _ sb 2 _ _ hS2
    have s3 : V.cell? ⟨sb, 3, none⟩ = some (.int .i64 hd) := cell_of_row _ sb 3 _ _ _ hS2
    have f3 : V.frozen? ⟨sb, 3, none⟩ = false := frozen_of_row _ sb 3 _ _ hS2
    have s4 : V.cell? ⟨sb, 4, none⟩ = some (.bool lo) := cell_of_row _ sb 4 _ _ _ hS2
    have f4 : V.frozen? ⟨sb, 4, none⟩ = false := frozen_of_row _ sb 4 _ _ hS2
    have s5 : V.cell? ⟨sb, 5, none⟩ = some (.bool ho) := cell_of_row _ sb 5 _ _ _ hS2
    have f5 : V.frozen? ⟨sb, 5, none⟩ = false := frozen_of_row _ sb 5 _ _ hS2
    have s6 : V.cell? ⟨sb, 6, none⟩ = some (.bool nh) := cell_of_row _ sb 6 _ _ _ hS2
    have f6 : V.frozen? ⟨sb, 6, none⟩ = false := frozen_of_row _ sb 6 _ _ hS2
    have s7 : V.cell? ⟨sb, 7, none⟩ = some (.bool wd) := cell_of_row _ sb 7 _ _ _ hS2
    have f7 : V.frozen? ⟨sb, 7, none⟩ = false := frozen_of_row _ sb 7 _ _ hS2
    go_wp2_with fail
    first
      | go_end0
      | refine bodyPost_ret (results_none rfl _ _ _) rfl ?_
    exact ⟨rfl, by rw [HR.out]; exact heap_setCell_same _ sb 7 _ _ _ hS2, grown_set hGV⟩
  obtain rfl : ye = 0 := he
  have HR := Lib.hid (HY2.out rfl)
  go_wp2_with fail
  refine (ref_least sb s yn yd (spS l) _ hS2).mono ?_
  rintro e w3 ⟨rfl, hS3, hg3⟩
  have hG3 := grownBy_trans hGV hg3
  go_wp2_with fail
  first
    | go_end0
    | refine bodyPost_ret (results_none rfl _ _ _) rfl ?_
  exact ⟨rfl, by rw [HR.out]; exact hS3, hG3⟩
end Go.Proofs.Ytkgaipcgdldfdaa
