/- The reference's Before and Copy. -/
import Derived.Test.YtkgaipcgdldfdaaRrs2
import Derived.Deep.RegionLaw
import Derived.Deep.DeepCutAuto
namespace Go.Proofs.Ytkgaipcgdldfdaa
open Go.RowKit
set_option linter.unusedVariables false

/-- What the reference's Before returns (of valid arguments; of any). -/
noncomputable def befRF (n : Int) (xs : List Int) (i c : Int) : Int × List Int :=
  if (andF n xs (isL i 0 c)).1 = 0 then freeRF n (andF n xs (isL i 0 c)).2 i else ((andF n xs (isL i 0 c)).1, [])
open Classical in
noncomputable def befRG (n : Int) (xs : List Int) (i c : Int) : Int × List Int := if OkZ n xs ∧ clkB n i = true ∧ conB c = true then befRF n xs i c else (2, [])
/-- What the reference's Copy returns. -/
noncomputable def cpyRF (n : Int) (xs : List Int) (i j : Int) : Int × List Int :=
  if i = j then (0, xs) else if (freeRF n xs i).1 = 0 then andF n (freeRF n xs i).2 (isL i j 0) else ((freeRF n xs i).1, [])
open Classical in
noncomputable def cpyRG (n : Int) (xs : List Int) (i j : Int) : Int × List Int := if OkZ n xs ∧ clkB n i = true ∧ (0 ≤ j ∧ j ≤ n) then cpyRF n xs i j else (2, [])
/-- The world between the two steps of Before. -/
def RMid (w : World) (n : Int) (R : Int × List Int) (wx : World) : Prop :=
  ∃ v5, OL 60 (w.heap.size + 2) wx v5 R.2 ∧ wx.heap[w.heap.size]? = some (.cells #[.int .i64 (zdim R n), v5] 24 (0, 0)) ∧ wx.heap[w.heap.size + 1]? = some (.cells #[.int .i64 0, .slice none 0 0] 24 (0, 0)) ∧ Below w.heap.size w wx
theorem RMid.mk' {w w5 : World} {n : Int} {R : Int × List Int} {ao ao5 : Option Addr} {l cap cap5 : Nat} {base : Nat}
    (h : Loc w w5 none [.cells #[.int .i64 n, .slice ao l cap] 24, .cells #[.int .i64 0, .slice none 0 0] 24])
    (ho : OL 60 base w5 (.slice ao5 R.2.length cap5) R.2) (hb : w.heap.size + 2 ≤ base) :
    RMid w n R ((w5.setCell ⟨w.heap.size, 0, none⟩ (.int .i64 (zdim R n))).setCell ⟨w.heap.size, 1, none⟩ (.slice ao5 R.2.length cap5)) := by
  have h0 : w5.heap[w.heap.size]? = _ := h.objs 0 (by simp)
  have h3 := h.objs 1 (by simp)
  refine ⟨_, own_set2 (OL.mono ho hb) (by omega) _ _, ?_, ?_, ?_⟩
  · exact heap_setCell_same _ _ 1 _ _ _ (heap_setCell_same _ _ 0 _ _ _ h0)
  · rw [Below.heap_setCell _ _ _ _ (by simp), Below.heap_setCell _ _ _ _ (by simp)]; exact h3
  · exact ((below_grownBy h.grown).setCell (by simp) _).setCell (by simp) _
theorem hp_keep2 {w w' : World} {b : Nat} {o : Obj} (h : w.heap[b]? = some o) (hb : Below w.heap.size w w') : w'.heap[b]? = some o := (hb.block b (Array.getElem?_eq_some_iff.1 h).1).trans h

set_option maxHeartbeats 2000000 in
theorem ref_before_b1 (n i c : Int) (zv : Value) (xs : List Int) (w : World) (hz : RL w.heap.size w zv xs) (hok : ¬ OkZ n xs) :
    Calls Try.prog 51 #[.agg #[.int .i64 n, zv], .int .i64 i, .int .i64 c] w fun e w' => ZPost 60 w.heap.size n (befRG n xs i c) e w' ∧ Below w.heap.size w w' := by
  obtain ⟨aoz, capz, rfl, hlez, _⟩ := hz.open
  have hloc0 := Loc.two w (.cells #[.int .i64 n, .slice aoz xs.length capz] 24) (.cells #[.int .i64 0, .slice none 0 0] 24) none
  have Hz := Lib.hid (hz.keepb (below_grownBy hloc0.grown))
  clear hz
  have hres := Lib.hid (show befRG n xs i c = (2, []) from if_neg (fun h => hok h.1))

  go_enter Try.func51, Try.ntmps51
  go_wp2_with fail
  refine (ref_check_bad _ _ xs _ Hz.out hok).mono ?_
  rintro e wa ⟨rfl, hba⟩
  have hloca := hloc0.next (grownBy_below hba none) (fun _ h => by cases h)
  have c0 : wa.cell? ⟨w.heap.size, 0, none⟩ = some (.int .i64 n) := hloca.cell 0 rfl 0
  have r0 : wa.cell? ⟨w.heap.size + 1, 0, none⟩ = some (.int .i64 0) := hloca.cell 1 rfl 0
  have r1 : wa.cell? ⟨w.heap.size + 1, 1, none⟩ = some (.slice none 0 0) := hloca.cell 1 rfl 1
  have r2 : wa.frozen? ⟨w.heap.size + 1, 0, none⟩ = false := hloca.free 1 rfl 0
  have r3 : wa.frozen? ⟨w.heap.size + 1, 1, none⟩ = false := hloca.free 1 rfl 1
  clear hba hloc0 hok
  go_wp2_with fail
  refine bodyPost_ret (v := .tuple #[.agg #[.int .i64 0, .slice none 0 0], .int .i64 2]) (by simp [results, Try.results51, go_sem, r0, r1]) rfl ⟨ZPost.err hres.out (by omega) _, ?_⟩
  exact ((below_grownBy hloca.grown).setCell (by simp) _).setCell (by simp) _

set_option maxHeartbeats 2000000 in
theorem ref_before_b2 (n i c : Int) (zv : Value) (xs : List Int) (w : World) (hz : RL w.heap.size w zv xs) (hok : OkZ n xs) (hi : i < 1) :
    Calls Try.prog 51 #[.agg #[.int .i64 n, zv], .int .i64 i, .int .i64 c] w fun e w' => ZPost 60 w.heap.size n (befRG n xs i c) e w' ∧ Below w.heap.size w w' := by
  obtain ⟨aoz, capz, rfl, hlez, _⟩ := hz.open
  have hloc0 := Loc.two w (.cells #[.int .i64 n, .slice aoz xs.length capz] 24) (.cells #[.int .i64 0, .slice none 0 0] 24) none
  have Hz := Lib.hid (hz.keepb (below_grownBy hloc0.grown))
  clear hz
  have hres := Lib.hid (show befRG n xs i c = (2, []) from if_neg (fun h => by have := h.2.1; simp [clkB] at this; omega))
  have hd : decide (i < 1) = true := by simpa using hi
  clear hi
  go_enter Try.func51, Try.ntmps51
  go_wp2_with fail
  refine (ref_check_ok _ _ xs _ Hz.out hok).mono ?_
  rintro e wa ⟨rfl, hba⟩
  have hloca := hloc0.next (grownBy_below hba none) (fun _ h => by cases h)
  have c0 : wa.cell? ⟨w.heap.size, 0, none⟩ = some (.int .i64 n) := hloca.cell 0 rfl 0
  have r0 : wa.cell? ⟨w.heap.size + 1, 0, none⟩ = some (.int .i64 0) := hloca.cell 1 rfl 0
  have r1 : wa.cell? ⟨w.heap.size + 1, 1, none⟩ = some (.slice none 0 0) := hloca.cell 1 rfl 1
  have r2 : wa.frozen? ⟨w.heap.size + 1, 0, none⟩ = false := hloca.free 1 rfl 0
  have r3 : wa.frozen? ⟨w.heap.size + 1, 1, none⟩ = false := hloca.free 1 rfl 1
  clear hba hloc0 hok
  go_wp2_with fail
  refine bodyPost_ret (v := .tuple #[.agg #[.int .i64 0, .slice none 0 0], .int .i64 2]) (by simp [results, Try.results51, go_sem, r0, r1]) rfl ⟨ZPost.err hres.out (by omega) _, ?_⟩
  exact ((below_grownBy hloca.grown).setCell (by simp) _).setCell (by simp) _

set_option maxHeartbeats 2000000 in
theorem ref_before_b3 (n i c : Int) (zv : Value) (xs : List Int) (w : World) (hz : RL w.heap.size w zv xs) (hok : OkZ n xs) (hi : 1 ≤ i) (hi2 : n < i) :
    Calls Try.prog 51 #[.agg #[.int .i64 n, zv], .int .i64 i, .int .i64 c] w fun e w' => ZPost 60 w.heap.size n (befRG n xs i c) e w' ∧ Below w.heap.size w w' := by
  obtain ⟨aoz, capz, rfl, hlez, _⟩ := hz.open
  have hloc0 := Loc.two w (.cells #[.int .i64 n, .slice aoz xs.length capz] 24) (.cells #[.int .i64 0, .slice none 0 0] 24) none
  have Hz := Lib.hid (hz.keepb (below_grownBy hloc0.grown))
  clear hz
  have hres := Lib.hid (show befRG n xs i c = (2, []) from if_neg (fun h => by have := h.2.1; simp [clkB] at this; omega))
  have hd : decide (i < 1) = false := by simpa using hi
  have hd2 : decide (n < i) = true := by simpa using hi2
  clear hi hi2
  go_enter Try.func51, Try.ntmps51
  go_wp2_with fail
  refine (ref_check_ok _ _ xs _ Hz.out hok).mono ?_
  rintro e wa ⟨rfl, hba⟩
  have hloca := hloc0.next (grownBy_below hba none) (fun _ h => by cases h)
  have c0 : wa.cell? ⟨w.heap.size, 0, none⟩ = some (.int .i64 n) := hloca.cell 0 rfl 0
  have r0 : wa.cell? ⟨w.heap.size + 1, 0, none⟩ = some (.int .i64 0) := hloca.cell 1 rfl 0
  have r1 : wa.cell? ⟨w.heap.size + 1, 1, none⟩ = some (.slice none 0 0) := hloca.cell 1 rfl 1
  have r2 : wa.frozen? ⟨w.heap.size + 1, 0, none⟩ = false := hloca.free 1 rfl 0
  have r3 : wa.frozen? ⟨w.heap.size + 1, 1, none⟩ = false := hloca.free 1 rfl 1
  clear hba hloc0 hok
  go_wp2_with fail
  refine bodyPost_ret (v := .tuple #[.agg #[.int .i64 0, .slice none 0 0], .int .i64 2]) (by simp [results, Try.results51, go_sem, r0, r1]) rfl ⟨ZPost.err hres.out (by omega) _, ?_⟩
  exact ((below_grownBy hloca.grown).setCell (by simp) _).setCell (by simp) _

set_option maxHeartbeats 2000000 in
theorem ref_before_b4 (n i c : Int) (zv : Value) (xs : List Int) (w : World) (hz : RL w.heap.size w zv xs) (hok : OkZ n xs) (hi : 1 ≤ i) (hi2 : i ≤ n) (hc : conB c = false) :
    Calls Try.prog 51 #[.agg #[.int .i64 n, zv], .int .i64 i, .int .i64 c] w fun e w' => ZPost 60 w.heap.size n (befRG n xs i c) e w' ∧ Below w.heap.size w w' := by
  obtain ⟨aoz, capz, rfl, hlez, _⟩ := hz.open
  have hloc0 := Loc.two w (.cells #[.int .i64 n, .slice aoz xs.length capz] 24) (.cells #[.int .i64 0, .slice none 0 0] 24) none
  have Hz := Lib.hid (hz.keepb (below_grownBy hloc0.grown))
  clear hz
  have hres := Lib.hid (show befRG n xs i c = (2, []) from if_neg (fun h => by have := h.2.2; rw [hc] at this; cases this))
  have hd : decide (i < 1) = false := by simpa using hi
  have hd2 : decide (n < i) = false := by simpa using hi2
  clear hi hi2
  go_enter Try.func51, Try.ntmps51
  go_wp2_with fail
  refine (ref_check_ok _ _ xs _ Hz.out hok).mono ?_
  rintro e wa ⟨rfl, hba⟩
  have hloca := hloc0.next (grownBy_below hba none) (fun _ h => by cases h)
  have c0 : wa.cell? ⟨w.heap.size, 0, none⟩ = some (.int .i64 n) := hloca.cell 0 rfl 0
  have r0 : wa.cell? ⟨w.heap.size + 1, 0, none⟩ = some (.int .i64 0) := hloca.cell 1 rfl 0
  have r1 : wa.cell? ⟨w.heap.size + 1, 1, none⟩ = some (.slice none 0 0) := hloca.cell 1 rfl 1
  have r2 : wa.frozen? ⟨w.heap.size + 1, 0, none⟩ = false := hloca.free 1 rfl 0
  have r3 : wa.frozen? ⟨w.heap.size + 1, 1, none⟩ = false := hloca.free 1 rfl 1
  clear hba hloc0 hok
  go_wp2_with (go_at_call 110; refine (ref_constant c _).mono ?_; rw [hc]; rintro e w9 ⟨rfl, rfl⟩)
  refine bodyPost_ret (v := .tuple #[.agg #[.int .i64 0, .slice none 0 0], .int .i64 2]) (by simp [results, Try.results51, go_sem, r0, r1]) rfl ⟨ZPost.err hres.out (by omega) _, ?_⟩
  exact ((below_grownBy hloca.grown).setCell (by simp) _).setCell (by simp) _

set_option maxHeartbeats 2000000 in
theorem ref_copy_b1 (n i c : Int) (zv : Value) (xs : List Int) (w : World) (hz : RL w.heap.size w zv xs) (hok : ¬ OkZ n xs) :
    Calls Try.prog 53 #[.agg #[.int .i64 n, zv], .int .i64 i, .int .i64 c] w fun e w' => ZPost 60 w.heap.size n (cpyRG n xs i c) e w' ∧ Below w.heap.size w w' := by
  obtain ⟨aoz, capz, rfl, hlez, _⟩ := hz.open
  have hloc0 := Loc.two w (.cells #[.int .i64 n, .slice aoz xs.length capz] 24) (.cells #[.int .i64 0, .slice none 0 0] 24) none
  have Hz := Lib.hid (hz.keepb (below_grownBy hloc0.grown))
  clear hz
  have hres := Lib.hid (show cpyRG n xs i c = (2, []) from if_neg (fun h => hok h.1))

  go_enter Try.func53, Try.ntmps53
  go_wp2_with fail
  refine (ref_check_bad _ _ xs _ Hz.out hok).mono ?_
  rintro e wa ⟨rfl, hba⟩
  have hloca := hloc0.next (grownBy_below hba none) (fun _ h => by cases h)
  have c0 : wa.cell? ⟨w.heap.size, 0, none⟩ = some (.int .i64 n) := hloca.cell 0 rfl 0
  have r0 : wa.cell? ⟨w.heap.size + 1, 0, none⟩ = some (.int .i64 0) := hloca.cell 1 rfl 0
  have r1 : wa.cell? ⟨w.heap.size + 1, 1, none⟩ = some (.slice none 0 0) := hloca.cell 1 rfl 1
  have r2 : wa.frozen? ⟨w.heap.size + 1, 0, none⟩ = false := hloca.free 1 rfl 0
  have r3 : wa.frozen? ⟨w.heap.size + 1, 1, none⟩ = false := hloca.free 1 rfl 1
  clear hba hloc0 hok
  go_wp2_with fail
  refine bodyPost_ret (v := .tuple #[.agg #[.int .i64 0, .slice none 0 0], .int .i64 2]) (by simp [results, Try.results53, go_sem, r0, r1]) rfl ⟨ZPost.err hres.out (by omega) _, ?_⟩
  exact ((below_grownBy hloca.grown).setCell (by simp) _).setCell (by simp) _

set_option maxHeartbeats 2000000 in
theorem ref_copy_b2 (n i c : Int) (zv : Value) (xs : List Int) (w : World) (hz : RL w.heap.size w zv xs) (hok : OkZ n xs) (hi : i < 1) :
    Calls Try.prog 53 #[.agg #[.int .i64 n, zv], .int .i64 i, .int .i64 c] w fun e w' => ZPost 60 w.heap.size n (cpyRG n xs i c) e w' ∧ Below w.heap.size w w' := by
  obtain ⟨aoz, capz, rfl, hlez, _⟩ := hz.open
  have hloc0 := Loc.two w (.cells #[.int .i64 n, .slice aoz xs.length capz] 24) (.cells #[.int .i64 0, .slice none 0 0] 24) none
  have Hz := Lib.hid (hz.keepb (below_grownBy hloc0.grown))
  clear hz
  have hres := Lib.hid (show cpyRG n xs i c = (2, []) from if_neg (fun h => by have := h.2.1; simp [clkB] at this; omega))
  have hd : decide (i < 1) = true := by simpa using hi
  clear hi
  go_enter Try.func53, Try.ntmps53
  go_wp2_with fail
  refine (ref_check_ok _ _ xs _ Hz.out hok).mono ?_
  rintro e wa ⟨rfl, hba⟩
  have hloca := hloc0.next (grownBy_below hba none) (fun _ h => by cases h)
  have c0 : wa.cell? ⟨w.heap.size, 0, none⟩ = some (.int .i64 n) := hloca.cell 0 rfl 0
  have r0 : wa.cell? ⟨w.heap.size + 1, 0, none⟩ = some (.int .i64 0) := hloca.cell 1 rfl 0
  have r1 : wa.cell? ⟨w.heap.size + 1, 1, none⟩ = some (.slice none 0 0) := hloca.cell 1 rfl 1
  have r2 : wa.frozen? ⟨w.heap.size + 1, 0, none⟩ = false := hloca.free 1 rfl 0
  have r3 : wa.frozen? ⟨w.heap.size + 1, 1, none⟩ = false := hloca.free 1 rfl 1
  clear hba hloc0 hok
  go_wp2_with fail
  refine bodyPost_ret (v := .tuple #[.agg #[.int .i64 0, .slice none 0 0], .int .i64 2]) (by simp [results, Try.results53, go_sem, r0, r1]) rfl ⟨ZPost.err hres.out (by omega) _, ?_⟩
  exact ((below_grownBy hloca.grown).setCell (by simp) _).setCell (by simp) _

set_option maxHeartbeats 2000000 in
theorem ref_copy_b3 (n i c : Int) (zv : Value) (xs : List Int) (w : World) (hz : RL w.heap.size w zv xs) (hok : OkZ n xs) (hi : 1 ≤ i) (hi2 : n < i) :
    Calls Try.prog 53 #[.agg #[.int .i64 n, zv], .int .i64 i, .int .i64 c] w fun e w' => ZPost 60 w.heap.size n (cpyRG n xs i c) e w' ∧ Below w.heap.size w w' := by
  obtain ⟨aoz, capz, rfl, hlez, _⟩ := hz.open
  have hloc0 := Loc.two w (.cells #[.int .i64 n, .slice aoz xs.length capz] 24) (.cells #[.int .i64 0, .slice none 0 0] 24) none
  have Hz := Lib.hid (hz.keepb (below_grownBy hloc0.grown))
  clear hz
  have hres := Lib.hid (show cpyRG n xs i c = (2, []) from if_neg (fun h => by have := h.2.1; simp [clkB] at this; omega))
  have hd : decide (i < 1) = false := by simpa using hi
  have hd2 : decide (n < i) = true := by simpa using hi2
  clear hi hi2
  go_enter Try.func53, Try.ntmps53
  go_wp2_with fail
  refine (ref_check_ok _ _ xs _ Hz.out hok).mono ?_
  rintro e wa ⟨rfl, hba⟩
  have hloca := hloc0.next (grownBy_below hba none) (fun _ h => by cases h)
  have c0 : wa.cell? ⟨w.heap.size, 0, none⟩ = some (.int .i64 n) := hloca.cell 0 rfl 0
  have r0 : wa.cell? ⟨w.heap.size + 1, 0, none⟩ = some (.int .i64 0) := hloca.cell 1 rfl 0
  have r1 : wa.cell? ⟨w.heap.size + 1, 1, none⟩ = some (.slice none 0 0) := hloca.cell 1 rfl 1
  have r2 : wa.frozen? ⟨w.heap.size + 1, 0, none⟩ = false := hloca.free 1 rfl 0
  have r3 : wa.frozen? ⟨w.heap.size + 1, 1, none⟩ = false := hloca.free 1 rfl 1
  clear hba hloc0 hok
  go_wp2_with fail
  refine bodyPost_ret (v := .tuple #[.agg #[.int .i64 0, .slice none 0 0], .int .i64 2]) (by simp [results, Try.results53, go_sem, r0, r1]) rfl ⟨ZPost.err hres.out (by omega) _, ?_⟩
  exact ((below_grownBy hloca.grown).setCell (by simp) _).setCell (by simp) _

set_option maxHeartbeats 2000000 in
theorem ref_copy_b4 (n i c : Int) (zv : Value) (xs : List Int) (w : World) (hz : RL w.heap.size w zv xs) (hok : OkZ n xs) (hi : 1 ≤ i) (hi2 : i ≤ n) (hj : c < 0) :
    Calls Try.prog 53 #[.agg #[.int .i64 n, zv], .int .i64 i, .int .i64 c] w fun e w' => ZPost 60 w.heap.size n (cpyRG n xs i c) e w' ∧ Below w.heap.size w w' := by
  obtain ⟨aoz, capz, rfl, hlez, _⟩ := hz.open
  have hloc0 := Loc.two w (.cells #[.int .i64 n, .slice aoz xs.length capz] 24) (.cells #[.int .i64 0, .slice none 0 0] 24) none
  have Hz := Lib.hid (hz.keepb (below_grownBy hloc0.grown))
  clear hz
  have hres := Lib.hid (show cpyRG n xs i c = (2, []) from if_neg (fun h => by omega))
  have hd : decide (i < 1) = false := by simpa using hi
  have hd2 : decide (n < i) = false := by simpa using hi2
  have hd3 : decide (c < 0) = true := by simpa using hj
  clear hi hi2 hj
  go_enter Try.func53, Try.ntmps53
  go_wp2_with fail
  refine (ref_check_ok _ _ xs _ Hz.out hok).mono ?_
  rintro e wa ⟨rfl, hba⟩
  have hloca := hloc0.next (grownBy_below hba none) (fun _ h => by cases h)
  have c0 : wa.cell? ⟨w.heap.size, 0, none⟩ = some (.int .i64 n) := hloca.cell 0 rfl 0
  have r0 : wa.cell? ⟨w.heap.size + 1, 0, none⟩ = some (.int .i64 0) := hloca.cell 1 rfl 0
  have r1 : wa.cell? ⟨w.heap.size + 1, 1, none⟩ = some (.slice none 0 0) := hloca.cell 1 rfl 1
  have r2 : wa.frozen? ⟨w.heap.size + 1, 0, none⟩ = false := hloca.free 1 rfl 0
  have r3 : wa.frozen? ⟨w.heap.size + 1, 1, none⟩ = false := hloca.free 1 rfl 1
  clear hba hloc0 hok
  go_wp2_with fail
  refine bodyPost_ret (v := .tuple #[.agg #[.int .i64 0, .slice none 0 0], .int .i64 2]) (by simp [results, Try.results53, go_sem, r0, r1]) rfl ⟨ZPost.err hres.out (by omega) _, ?_⟩
  exact ((below_grownBy hloca.grown).setCell (by simp) _).setCell (by simp) _

set_option maxHeartbeats 2000000 in
theorem ref_copy_b5 (n i c : Int) (zv : Value) (xs : List Int) (w : World) (hz : RL w.heap.size w zv xs) (hok : OkZ n xs) (hi : 1 ≤ i) (hi2 : i ≤ n) (hj : 0 ≤ c) (hj2 : n < c) :
    Calls Try.prog 53 #[.agg #[.int .i64 n, zv], .int .i64 i, .int .i64 c] w fun e w' => ZPost 60 w.heap.size n (cpyRG n xs i c) e w' ∧ Below w.heap.size w w' := by
  obtain ⟨aoz, capz, rfl, hlez, _⟩ := hz.open
  have hloc0 := Loc.two w (.cells #[.int .i64 n, .slice aoz xs.length capz] 24) (.cells #[.int .i64 0, .slice none 0 0] 24) none
  have Hz := Lib.hid (hz.keepb (below_grownBy hloc0.grown))
  clear hz
  have hres := Lib.hid (show cpyRG n xs i c = (2, []) from if_neg (fun h => by omega))
  have hd : decide (i < 1) = false := by simpa using hi
  have hd2 : decide (n < i) = false := by simpa using hi2
  have hd3 : decide (c < 0) = false := by simpa using hj
  have hd4 : decide (n < c) = true := by simpa using hj2
  clear hi hi2 hj hj2
  go_enter Try.func53, Try.ntmps53
  go_wp2_with fail
  refine (ref_check_ok _ _ xs _ Hz.out hok).mono ?_
  rintro e wa ⟨rfl, hba⟩
  have hloca := hloc0.next (grownBy_below hba none) (fun _ h => by cases h)
  have c0 : wa.cell? ⟨w.heap.size, 0, none⟩ = some (.int .i64 n) := hloca.cell 0 rfl 0
  have r0 : wa.cell? ⟨w.heap.size + 1, 0, none⟩ = some (.int .i64 0) := hloca.cell 1 rfl 0
  have r1 : wa.cell? ⟨w.heap.size + 1, 1, none⟩ = some (.slice none 0 0) := hloca.cell 1 rfl 1
  have r2 : wa.frozen? ⟨w.heap.size + 1, 0, none⟩ = false := hloca.free 1 rfl 0
  have r3 : wa.frozen? ⟨w.heap.size + 1, 1, none⟩ = false := hloca.free 1 rfl 1
  clear hba hloc0 hok
  go_wp2_with fail
  refine bodyPost_ret (v := .tuple #[.agg #[.int .i64 0, .slice none 0 0], .int .i64 2]) (by simp [results, Try.results53, go_sem, r0, r1]) rfl ⟨ZPost.err hres.out (by omega) _, ?_⟩
  exact ((below_grownBy hloca.grown).setCell (by simp) _).setCell (by simp) _

set_option maxRecDepth 100000 in
set_option maxHeartbeats 4000000 in
theorem ref_before_in (n i c : Int) (zv : Value) (xs : List Int) (w : World) (hz : RL w.heap.size w zv xs) (hok : OkZ n xs) (hi : clkB n i = true) (hc : conB c = true) :
    Calls Try.prog 51 #[.agg #[.int .i64 n, zv], .int .i64 i, .int .i64 c] w fun e w' => ZPost 60 w.heap.size n (befRF n xs i c) e w' ∧ Below w.heap.size w w' := by
  obtain ⟨aoz, capz, rfl, hlez, _⟩ := hz.open
  have hloc0 := Loc.two w (.cells #[.int .i64 n, .slice aoz xs.length capz] 24) (.cells #[.int .i64 0, .slice none 0 0] 24) none
  have Hz := Lib.hid hz
  have Hzw := Lib.hid (hz.keepb (below_grownBy hloc0.grown))
  have h3 : 1 ≤ i ∧ i ≤ n := by simpa [clkB] using hi
  have hd1 : decide (i < 1) = false := by simp; omega
  have hd2 : decide (n < i) = false := by simp; omega
  have h4 : 0 ≤ c ∧ c ≤ 1048576 := by simpa [conB] using hc
  have HA := Lib.hid (fun v k w hv hk => ref_and n v k xs (isL i 0 c) w hv hk)
  have HRR := Lib.hid (show befRF n xs i c = if (andF n xs (isL i 0 c)).1 = 0 then freeRF n (andF n xs (isL i 0 c)).2 i else ((andF n xs (isL i 0 c)).1, []) from rfl)
  have H4 := Lib.hid h4
  clear hz hi h3 h4
  go_enter Try.func51, Try.ntmps51
  go_wp2_with fail
  refine (ref_check_ok _ _ xs _ Hzw.out hok).mono ?_
  rintro e wa ⟨rfl, hba⟩
  have hloca := hloc0.next (grownBy_below hba none) (fun _ h => by cases h)
  have c0 : wa.cell? ⟨w.heap.size, 0, none⟩ = some (.int .i64 n) := hloca.cell 0 rfl 0
  have c1 : wa.cell? ⟨w.heap.size, 1, none⟩ = some (.slice aoz xs.length capz) := hloca.cell 0 rfl 1
  have Hloca := Lib.hid hloca
  have Hza := Lib.hid (Hz.out.keepb (below_grownBy hloca.grown))
  clear hba hloc0 hok hloca
  generalize andF n xs (isL i 0 c) = R at *
  generalize hT : befRF n xs i c = T at *
  have HT := Lib.hid hT
  clear hT
  go_upto_region 3 with (go_at_call 110; refine (ref_constant c _).mono ?_; rw [hc]; rintro e w9 ⟨rfl, rfl⟩)
  go_cut [8] (fun s8 wx => s8 = .int .i64 R.1 ∧ RMid w n R wx)
  case first =>
    go_region_law (first
      | (go_simp; go_at_call 111; refine (ref_is i 0 c _ H4.out.1 H4.out.2).mono ?_; rintro e w7 ⟨⟨vk, rfl, hk⟩, hb7⟩; have hr7 := (Hza.out.drew).keepb hb7; have hloc7 := Hloca.out.next (grownBy_trans (grownBy_drew _ none) (grownBy_below hb7 none)) (fun _ h => by cases h); have k0 : w7.cell? ⟨w.heap.size, 0, none⟩ = some (.int .i64 n) := hloc7.cell 0 rfl 0; have k1 : w7.cell? ⟨w.heap.size, 1, none⟩ = some (.slice aoz xs.length capz) := hloc7.cell 0 rfl 1)
      | (go_simp; go_at_call 41; refine (HA.out _ _ w7 hr7 hk).mono ?_; rintro e w5 ⟨⟨v5, rfl, ho5⟩, hb5⟩; obtain ⟨ao5, cap5, rfl⟩ := owns_form ho5; have hloc5 := hloc7.next (grownBy_below hb5 none) (fun _ h => by cases h); have p0 : w5.cell? ⟨w.heap.size, 0, none⟩ = some (.int .i64 n) := hloc5.cell 0 rfl 0; have p1 : w5.cell? ⟨w.heap.size, 1, none⟩ = some (.slice aoz xs.length capz) := hloc5.cell 0 rfl 1; have pf0 : w5.frozen? ⟨w.heap.size, 0, none⟩ = false := hloc5.free 0 rfl 0; have pf1 : w5.frozen? ⟨w.heap.size, 1, none⟩ = false := hloc5.free 0 rfl 1; have Hm5 := Lib.hid (RMid.mk' hloc5 ho5 (by have := hloc7.size; simp at this; omega))))
    all_goals
      go_wp2_with fail
      go_meet
      exact ⟨rfl, Hm5.out⟩
  case rest =>
    obtain ⟨rfl, v5, ho5, hb1, hb2, hB5⟩ := hcut
    obtain ⟨ao5, cap5, rfl⟩ := owns_form ho5
    have p0 := cell_of_row _ w.heap.size 0 _ _ _ hb1
    have p1 := cell_of_row _ w.heap.size 1 _ _ _ hb1
    have Hb2 := Lib.hid hb2
    have Ho5 := Lib.hid ho5
    have HB5 := Lib.hid hB5
    clear hb1 hb2 ho5 hB5 c0 c1
    by_cases he : R.1 = 0
    · have hE : (R.1 != 0) = false := by simpa using he
      have hTf := HRR.out
      rw [if_pos he] at hTf
      have HTF := Lib.hid hTf
      have hd : zdim R n = n := by unfold zdim; rw [if_pos he]
      rw [hd] at p0
      clear hTf he hd
      go_wp2_with fail
      refine (ref_free n i _ R.2 _ (OL.rl Ho5.out)).mono ?_
      rw [← HTF.out]
      rintro e w7 ⟨⟨v7, rfl, ho7⟩, hb7⟩
      obtain ⟨ao7, cap7, rfl⟩ := owns_form ho7
      have h3 := hp_keep2 Hb2.out hb7
      have r0 := cell_of_row _ (w.heap.size + 1) 0 _ _ _ h3
      have r1 := cell_of_row _ (w.heap.size + 1) 1 _ _ _ h3
      have r2 := frozen_of_row _ (w.heap.size + 1) 0 _ _ h3
      have r3 := frozen_of_row _ (w.heap.size + 1) 1 _ _ h3
      have Ho7 := Lib.hid (show OL 60 (w.heap.size + 2) w7 (.slice ao7 T.2.length cap7) T.2 from OL.mono ho7 (by have h := (Array.getElem?_eq_some_iff.1 Hb2.out).1; omega))
      have HB7 := Lib.hid (HB5.out.trans (hb7.mono HB5.out.size))
      clear ho7 hb7 h3 p0 p1
      go_wp2_with fail
      refine bodyPost_ret (v := .tuple #[.agg #[.int .i64 (zdim T n), .slice ao7 T.2.length cap7], .int .i64 T.1]) (by simp [results, Try.results51, go_sem, r0, r1]) rfl ⟨⟨_, by rw [HT.out], ?_⟩, ?_⟩
      · rw [HT.out]; exact OL.mono (base := w.heap.size + 2) (own_set2 Ho7.out (by omega) _ _) (by omega)
      · exact (HB7.out.setCell (by simp) _).setCell (by simp) _
    · have hE : (R.1 != 0) = true := by simpa using he
      have hTf := HRR.out
      rw [if_neg he] at hTf
      have HTF := Lib.hid hTf
      have Hne := Lib.hid he
      have r0 := cell_of_row _ (w.heap.size + 1) 0 _ _ _ Hb2.out
      have r1 := cell_of_row _ (w.heap.size + 1) 1 _ _ _ Hb2.out
      have r2 := frozen_of_row _ (w.heap.size + 1) 0 _ _ Hb2.out
      have r3 := frozen_of_row _ (w.heap.size + 1) 1 _ _ Hb2.out
      clear hTf he p0 p1
      go_wp2_with fail
      refine bodyPost_ret (v := .tuple #[.agg #[.int .i64 0, .slice none 0 0], .int .i64 R.1]) (by simp [results, Try.results51, go_sem, r0, r1]) rfl ⟨by rw [HT.out]; exact ZPost.err HTF.out Hne.out _, ?_⟩
      exact (HB5.out.setCell (by simp) _).setCell (by simp) _
theorem ref_before (n i c : Int) (zv : Value) (xs : List Int) (w : World) (hz : RL w.heap.size w zv xs) :
    Calls Try.prog 51 #[.agg #[.int .i64 n, zv], .int .i64 i, .int .i64 c] w fun e w' => ZPost 60 w.heap.size n (befRG n xs i c) e w' ∧ Below w.heap.size w w' := by
  by_cases hok : OkZ n xs
  · by_cases h1 : i < 1
    · exact ref_before_b2 n i c zv xs w hz hok h1
    · by_cases h2 : n < i
      · exact ref_before_b3 n i c zv xs w hz hok (by omega) h2
      · cases hc : conB c with
        | false => exact ref_before_b4 n i c zv xs w hz hok (by omega) (by omega) hc
        | true =>
          have hk : clkB n i = true := by simp [clkB]; omega
          have e : befRG n xs i c = befRF n xs i c := if_pos ⟨hok, hk, hc⟩
          rw [e]
          exact ref_before_in n i c zv xs w hz hok hk hc
  · exact ref_before_b1 n i c zv xs w hz hok

set_option maxRecDepth 100000 in
set_option maxHeartbeats 4000000 in
theorem ref_copy_in (n i c : Int) (zv : Value) (xs : List Int) (w : World) (hz : RL w.heap.size w zv xs) (hok : OkZ n xs) (hi : clkB n i = true) (hj : 0 ≤ c) (hj2 : c ≤ n) (hic : i ≠ c) :
    Calls Try.prog 53 #[.agg #[.int .i64 n, zv], .int .i64 i, .int .i64 c] w fun e w' => ZPost 60 w.heap.size n (cpyRF n xs i c) e w' ∧ Below w.heap.size w w' := by
  obtain ⟨aoz, capz, rfl, hlez, _⟩ := hz.open
  have hloc0 := Loc.two w (.cells #[.int .i64 n, .slice aoz xs.length capz] 24) (.cells #[.int .i64 0, .slice none 0 0] 24) none
  have Hz := Lib.hid hz
  have Hzw := Lib.hid (hz.keepb (below_grownBy hloc0.grown))
  have h3 : 1 ≤ i ∧ i ≤ n := by simpa [clkB] using hi
  have hd1 : decide (i < 1) = false := by simp; omega
  have hd2 : decide (n < i) = false := by simp; omega
  have hd3 : decide (c < 0) = false := by simpa using hj
  have hd4 : decide (n < c) = false := by simpa using hj2
  have hd5 : decide (i = c) = false := by simpa using hic
  have hd6 : (i == c) = false := by simpa using hic
  have HRR := Lib.hid (show cpyRF n xs i c = if (freeRF n xs i).1 = 0 then andF n (freeRF n xs i).2 (isL i c 0) else ((freeRF n xs i).1, []) from if_neg hic)
  clear hz hi h3 hj hj2 hic
  go_enter Try.func53, Try.ntmps53
  go_wp2_with fail
  refine (ref_check_ok _ _ xs _ Hzw.out hok).mono ?_
  rintro e wa ⟨rfl, hba⟩
  have hloca := hloc0.next (grownBy_below hba none) (fun _ h => by cases h)
  have c0 : wa.cell? ⟨w.heap.size, 0, none⟩ = some (.int .i64 n) := hloca.cell 0 rfl 0
  have c1 : wa.cell? ⟨w.heap.size, 1, none⟩ = some (.slice aoz xs.length capz) := hloca.cell 0 rfl 1
  have Hza := Lib.hid (Hz.out.keepb (below_grownBy hloca.grown))
  clear hba hloc0 hok
  go_wp2_with fail
  refine (ref_free n i _ xs wa Hza.out).mono ?_
  generalize freeRF n xs i = R at *
  rintro e w2 ⟨⟨v2, rfl, ho2⟩, hb2⟩
  obtain ⟨ao2, cp2, rfl⟩ := owns_form ho2
  have hloc2 := hloca.next (grownBy_below hb2 none) (fun _ h => by cases h)
  have hsz2 : w.heap.size + 2 ≤ wa.heap.size := hloca.size
  have q0 : w2.cell? ⟨w.heap.size, 0, none⟩ = some (.int .i64 n) := hloc2.cell 0 rfl 0
  have q1 : w2.cell? ⟨w.heap.size, 1, none⟩ = some (.slice aoz xs.length capz) := hloc2.cell 0 rfl 1
  have q2 : w2.frozen? ⟨w.heap.size, 0, none⟩ = false := hloc2.free 0 rfl 0
  have q3 : w2.frozen? ⟨w.heap.size, 1, none⟩ = false := hloc2.free 0 rfl 1
  have ho3 := own_set2 (w := w2) ho2 (b := w.heap.size) (by omega) (.int .i64 (zdim R n)) (.slice ao2 R.2.length cp2)
  have hloc3 := (hloc2.put 0 rfl 0 (.int .i64 (zdim R n))).put 0 rfl 1 (.slice ao2 R.2.length cp2)
  have hr0 := hloc2.cell 1 rfl 0
  have hr1 := hloc2.cell 1 rfl 1
  have hr2 := hloc2.free 1 rfl 0
  have hr3 := hloc2.free 1 rfl 1
  clear hb2 ho2 hloca hloc2 c0 c1 hd1 hd2 hd3 hd4 hd5 hd6
  by_cases he : R.1 = 0
  · have hE : (R.1 != 0) = false := by simpa using he
    have HF := Lib.hid (HRR.out.trans (if_pos he))
    have hzd : zdim R n = n := by unfold zdim; rw [if_pos he]
    generalize zdim R n = d at *
    obtain rfl : n = d := hzd.symm
    clear hzd he
    clear hr0 hr1 hr2 hr3
    have HA := Lib.hid (fun v k w hv hk => ref_and n v k R.2 (isL i c 0) w hv hk)
    generalize andF n R.2 (isL i c 0) = T at HF HA
    go_upto_region 8 with fail
    generalize hW3 : (w2.setCell ⟨w.heap.size, 0, none⟩ (.int .i64 n)).setCell ⟨w.heap.size, 1, none⟩ (.slice ao2 R.2.length cp2) = W3 at *
    clear q0 q1 q2 q3 hW3
    have z0 : W3.cell? ⟨w.heap.size, 0, none⟩ = some (.int .i64 n) := hloc3.cell 0 rfl 0
    have z1 : W3.cell? ⟨w.heap.size, 1, none⟩ = some (.slice ao2 R.2.length cp2) := hloc3.cell 0 rfl 1
    have Hr3 := Lib.hid (show RL W3.drew.heap.size W3.drew (.slice ao2 R.2.length cp2) R.2 from (OL.rl ho3).drew)
    have Hloc3 := Lib.hid hloc3
    clear ho3 hloc3
    have n0 : ¬ (w.heap.size = w.heap.size + 1) := by omega
    have n1 : ¬ (w.heap.size + 1 = w.heap.size) := by omega
    go_region_held3 (fun w' => w'.cell? ⟨w.heap.size, 0, none⟩ = some (.int .i64 n) ∧ w'.cell? ⟨w.heap.size, 1, none⟩ = some (.slice ao2 R.2.length cp2))
      (first | exact ⟨by assumption, by assumption⟩ | go_keep)
      (first
        | (go_at_call 111; refine (ref_is i c 0 W3.drew (by omega) (by omega)).mono ?_; rintro e w7 ⟨⟨vk, rfl, hk⟩, hb7⟩; have hr7 := Hr3.out.keepb hb7; have hloc7 := Hloc3.out.next (grownBy_trans (grownBy_drew W3 none) (grownBy_below hb7 none)) (fun _ h => by cases h); have k0 := keepb (show W3.drew.cell? _ = _ from z0) hb7; have k1 := keepb (show W3.drew.cell? _ = _ from z1) hb7)
        | (have _t := hb7; go_at_call 41; refine (HA.out _ _ w7 hr7 hk).mono ?_; rintro e w5 ⟨⟨v5, rfl, ho5⟩, hb5⟩; (obtain ⟨ao5, cap5, rfl⟩ := owns_form ho5); have hloc5 := hloc7.next (grownBy_below hb5 none) (fun _ h => by cases h); have p0 := keepb k0 hb5; have p1 := keepb k1 hb5; have r0 : w5.cell? ⟨w.heap.size + 1, 0, none⟩ = some (.int .i64 0) := hloc5.cell 1 rfl 0; have r1 : w5.cell? ⟨w.heap.size + 1, 1, none⟩ = some (.slice none 0 0) := hloc5.cell 1 rfl 1; have r2 : w5.frozen? ⟨w.heap.size + 1, 0, none⟩ = false := hloc5.free 1 rfl 0; have r3 : w5.frozen? ⟨w.heap.size + 1, 1, none⟩ = false := hloc5.free 1 rfl 1))
    all_goals
      go_wp2_with fail
      have Ho5 := Lib.hid (show OL 60 (w.heap.size + 2) w5 (.slice ao5 T.2.length cap5) T.2 from OL.mono ho5 (by have := hloc7.size; simp at this; omega))
      have HB5 := Lib.hid (below_grownBy hloc5.grown)
      refine bodyPost_ret (v := .tuple #[.agg #[.int .i64 (zdim T n), .slice ao5 T.2.length cap5], .int .i64 T.1]) (by simp [results, Try.results53, go_sem, r0, r1]) rfl ⟨⟨_, by rw [HF.out], ?_⟩, ?_⟩
      · rw [HF.out]; exact OL.mono (base := w.heap.size + 2) (own_set2 Ho5.out (by omega) _ _) (by omega)
      · exact (HB5.out.setCell (by simp) _).setCell (by simp) _
  · have hE : (R.1 != 0) = true := by simpa using he
    have HF := Lib.hid (HRR.out.trans (if_neg he))
    have Hne := Lib.hid he
    clear he
    generalize hzd : zdim R n = d at *
    clear hzd
    have s0 : w2.cell? ⟨w.heap.size + 1, 0, none⟩ = some (.int .i64 0) := hr0
    have s1 : w2.cell? ⟨w.heap.size + 1, 1, none⟩ = some (.slice none 0 0) := hr1
    have f0 : w2.frozen? ⟨w.heap.size + 1, 0, none⟩ = false := hr2
    have f1 : w2.frozen? ⟨w.heap.size + 1, 1, none⟩ = false := hr3
    clear hr0 hr1 hr2 hr3
    have Hloc3 := Lib.hid hloc3
    clear hloc3 ho3
    go_wp2_with fail
    refine bodyPost_ret (v := .tuple #[.agg #[.int .i64 0, .slice none 0 0], .int .i64 R.1]) (by simp [results, Try.results53, go_sem, s0, s1]) rfl ⟨ZPost.err HF.out Hne.out _, ?_⟩
    exact ((below_grownBy Hloc3.out.grown).setCell (by simp) _).setCell (by simp) _

set_option maxRecDepth 100000 in
set_option maxHeartbeats 4000000 in
theorem ref_copy_same (n i : Int) (zv : Value) (xs : List Int) (w : World) (hz : RL w.heap.size w zv xs) (hok : OkZ n xs) (hi : clkB n i = true) :
    Calls Try.prog 53 #[.agg #[.int .i64 n, zv], .int .i64 i, .int .i64 i] w fun e w' => ZPost 60 w.heap.size n (0, xs) e w' ∧ Below w.heap.size w w' := by
  obtain ⟨aoz, capz, rfl, hlez, _⟩ := hz.open
  have hloc0 := Loc.two w (.cells #[.int .i64 n, .slice aoz xs.length capz] 24) (.cells #[.int .i64 0, .slice none 0 0] 24) none
  have Hz := Lib.hid hz
  have Hzw := Lib.hid (hz.keepb (below_grownBy hloc0.grown))
  have h3 : 1 ≤ i ∧ i ≤ n := by simpa [clkB] using hi
  have hd1 : decide (i < 1) = false := by simp; omega
  have hd2 : decide (n < i) = false := by simp; omega
  have hd3 : decide (i < 0) = false := by simp; omega
  have Hl := Lib.hid (show xs.length ≤ 1000 by
    obtain ⟨N, rfl⟩ := Int.eq_ofNat_of_zero_le hok.lo
    have h1 : xs.length = (N + 1) * (N + 1) := by have := hok.len; rwa [Int.toNat_natCast] at this
    have h2 : N ≤ 10 := by have := hok.hi; omega
    have h4 : (N + 1) * (N + 1) ≤ 11 * 11 := Nat.mul_le_mul (by omega) (by omega)
    omega)
  clear hz hi h3
  go_enter Try.func53, Try.ntmps53
  go_wp2_with fail
  refine (ref_check_ok _ _ xs _ Hzw.out hok).mono ?_
  rintro e wa ⟨rfl, hba⟩
  have hloca := hloc0.next (grownBy_below hba none) (fun _ h => by cases h)
  have c0 : wa.cell? ⟨w.heap.size, 0, none⟩ = some (.int .i64 n) := hloca.cell 0 rfl 0
  have c1 : wa.cell? ⟨w.heap.size, 1, none⟩ = some (.slice aoz xs.length capz) := hloca.cell 0 rfl 1
  have Hza := Lib.hid (Hz.out.keepb (below_grownBy hloca.grown))
  have Hloca := Lib.hid hloca
  clear hba hloc0 hok hloca
  go_wp2_with fail
  refine (ref_copied n _ xs wa Hza.out Hl.out).mono ?_
  rintro e w5 ⟨v5, rfl, ho5, hb5⟩
  obtain ⟨ao5, cap5, rfl⟩ := owns_form ho5
  have hloc5 := Hloca.out.next (grownBy_below hb5 none) (fun _ h => by cases h)
  have r0 : w5.cell? ⟨w.heap.size + 1, 0, none⟩ = some (.int .i64 0) := hloc5.cell 1 rfl 0
  have r1 : w5.cell? ⟨w.heap.size + 1, 1, none⟩ = some (.slice none 0 0) := hloc5.cell 1 rfl 1
  have r2 : w5.frozen? ⟨w.heap.size + 1, 0, none⟩ = false := hloc5.free 1 rfl 0
  have r3 : w5.frozen? ⟨w.heap.size + 1, 1, none⟩ = false := hloc5.free 1 rfl 1
  have Ho5 := Lib.hid (show OL 60 (w.heap.size + 2) w5 (.slice ao5 xs.length cap5) xs from OL.mono ho5 (by have := Hloca.out.size; simp at this; omega))
  have HB5 := Lib.hid (below_grownBy hloc5.grown)
  clear ho5 hb5 hloc5 c0 c1
  go_wp2_with fail
  all_goals
    refine bodyPost_ret (v := .tuple #[.agg #[.int .i64 n, .slice ao5 xs.length cap5], .int .i64 0]) (by simp [results, Try.results53, go_sem, r0, r1]) rfl ⟨⟨.slice ao5 xs.length cap5, by simp [zdim], ?_⟩, ?_⟩
    · exact OL.mono (base := w.heap.size + 2) (own_set2 Ho5.out (by omega) _ _) (by omega)
    · exact (HB5.out.setCell (by simp) _).setCell (by simp) _
theorem ref_copy (n i c : Int) (zv : Value) (xs : List Int) (w : World) (hz : RL w.heap.size w zv xs) :
    Calls Try.prog 53 #[.agg #[.int .i64 n, zv], .int .i64 i, .int .i64 c] w fun e w' => ZPost 60 w.heap.size n (cpyRG n xs i c) e w' ∧ Below w.heap.size w w' := by
  by_cases hok : OkZ n xs
  · by_cases h1 : i < 1
    · exact ref_copy_b2 n i c zv xs w hz hok h1
    · by_cases h2 : n < i
      · exact ref_copy_b3 n i c zv xs w hz hok (by omega) h2
      · by_cases h3 : c < 0
        · exact ref_copy_b4 n i c zv xs w hz hok (by omega) (by omega) h3
        · by_cases h4 : n < c
          · exact ref_copy_b5 n i c zv xs w hz hok (by omega) (by omega) (by omega) h4
          · have hk : clkB n i = true := by simp [clkB]; omega
            have e : cpyRG n xs i c = cpyRF n xs i c := if_pos ⟨hok, hk, by omega, by omega⟩
            rw [e]
            by_cases hic : i = c
            · subst hic
              have e2 : cpyRF n xs i i = (0, xs) := if_pos rfl
              rw [e2]
              exact ref_copy_same n i zv xs w hz hok hk
            · exact ref_copy_in n i c zv xs w hz hok hk (by omega) (by omega) hic
  · exact ref_copy_b1 n i c zv xs w hz hok
end Go.Proofs.Ytkgaipcgdldfdaa
