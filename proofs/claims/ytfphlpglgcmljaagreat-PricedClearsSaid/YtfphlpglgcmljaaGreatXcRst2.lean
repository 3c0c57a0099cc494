/- Part of the proof of priced_clears_proved: Rst2. -/
import Derived.Test.YtfphlpglgcmljaaGreatXcUpz
namespace Go.Proofs.YtfphlpglgcmljaaGreat
open Go.RowKit
set_option linter.unusedVariables false
set_option maxRecDepth 100000 in
set_option maxHeartbeats 4000000 in
theorem prog_reset_no (n i c : Int) (zv : Value) (xs : List Int) (w : World) (hz : RL w.heap.size w zv xs) (hi : clkB n i = false) :
  Calls Tryz.prog 72 #[.agg #[.int .i64 n, zv], .int .i64 i, .int .i64 c] w fun e w' => ZPost 63 w.heap.size n (resetF n xs i c) e w' ∧ Below w.heap.size w w' := by
 obtain ⟨aoz, capz, rfl, hlez, _⟩ := hz.open
 have hloc : Loc w ((((w.alloc (.cells #[.int .i64 n, .slice aoz xs.length capz] 32)).alloc (.cells #[.int .i64 i] 3)).alloc (.cells #[.int .i64 c] 2)).alloc (.cells #[.int .i64 0, .slice none 0 0] 32)) none [.cells #[.int .i64 n, .slice aoz xs.length capz] 32, .cells #[.int .i64 i] 3, .cells #[.int .i64 c] 2, .cells #[.int .i64 0, .slice none 0 0] 32] := Loc.four w _ _ _ _ _
 have Hz := Lib.hid hz
 clear hz
 have key : ∀ wr : World, Below w.heap.size w wr → Calls Tryz.prog 120 #[.agg #[.int .i64 n, .slice aoz xs.length capz], .bool false, .func (.func 128) #[] #[.pointer (some ⟨w.heap.size + 1, 0, none⟩), .pointer (some ⟨w.heap.size + 1 + 1, 0, none⟩)]] wr fun e w' => ZPost 63 wr.heap.size n (resetF n xs i c) e w' ∧ Below wr.heap.size wr w' := by
  intro wr hbe
  have Hz1 : RL wr.heap.size wr (.slice aoz xs.length capz) xs := Hz.out.keepb hbe
  unfold resetF
  rw [hi, Bool.false_and]
  exact prog_changed_bad n _ _ xs _ _ wr Hz1 (fun e => by cases e.2)
 have Key := Lib.hid key
 have Hi := Lib.hid hi
 clear key hi
 have c00 := hloc.cell 0 rfl 0
 have c01 := hloc.cell 0 rfl 1
 have c10 := hloc.cell 1 rfl 0
 have c20 := hloc.cell 2 rfl 0
 go_enter Tryz.func72, Tryz.ntmps72
 go_wp2_with fail
 generalize World.alloc _ (Obj.cells #[.int .i64 0, .slice none 0 0] 32) = W at *
 have z0 : W.cell? ⟨w.heap.size, 0, none⟩ = some (.int .i64 n) := c00
 have z1 : W.cell? ⟨w.heap.size, 1, none⟩ = some (.slice aoz xs.length capz) := c01
 have z2 : W.cell? ⟨w.heap.size + 1, 0, none⟩ = some (.int .i64 i) := c10
 have z3 : W.cell? ⟨w.heap.size + 1 + 1, 0, none⟩ = some (.int .i64 c) := c20
 clear c00 c01 c10 c20
 have Hloc := Lib.hid hloc
 clear hloc
 have n0 : ¬ (w.heap.size = w.heap.size + 1 + 1 + 1) := by omega
 have n1 : ¬ (w.heap.size + 1 = w.heap.size + 1 + 1 + 1) := by omega
 have n22 : ¬ (w.heap.size + 1 + 1 + 1 = w.heap.size) := by omega
 have n3 : ¬ (w.heap.size + 1 + 1 + 1 = w.heap.size + 1) := by omega
 have n4 : ¬ (w.heap.size = w.heap.size + 1 + 1) := by omega
 have n5 : ¬ (w.heap.size + 1 + 1 = w.heap.size) := by omega
 generalize hR : resetF n xs i c = R at *
 have HR := Lib.hid hR
 clear hR
 refine wp_region_noPanic ?_
 refine wp_region_held_drew (S := (fun w' => w'.cell? ⟨w.heap.size, 0, none⟩ = some (.int .i64 n) ∧ w'.cell? ⟨w.heap.size, 1, none⟩ = some (.slice aoz xs.length capz) ∧ w'.cell? ⟨w.heap.size + 1, 0, none⟩ = some (.int .i64 i) ∧ w'.cell? ⟨w.heap.size + 1 + 1, 0, none⟩ = some (.int .i64 c))) (by kernel_rfl) ⟨z0, z1, z2, z3⟩ (fun hHeld => ?_)
 refine wpAnyH_take (i := 0) (v := ?_) rfl (by kernel_rfl) (by kernel_rfl) (by kernel_rfl) (fun _ _ _ h => h) (Or.inl ⟨by rfl, ?_⟩) (by assumption) ?_
 rotate_left
 ·intro w hSw; (try dsimp only at hSw); go_simp; (try with_reducible rfl)
 try simp only [Act.put, List.getElem_toArray, List.getElem_cons_zero, List.setIfInBounds_toArray, List.set_cons_zero, List.set_cons_succ]
 refine wpAnyH_take (i := 1) (v := ?_) rfl (by kernel_rfl) (by kernel_rfl) (by kernel_rfl) (fun _ _ _ h => h) (Or.inl ⟨by rfl, ?_⟩) (by assumption) ?_
 rotate_left
 ·intro w hSw; (try dsimp only at hSw); go_simp; (try with_reducible rfl)
 try simp only [Act.put, List.getElem_toArray, List.getElem_cons_zero, List.getElem_cons_succ, List.setIfInBounds_toArray, List.set_cons_zero, List.set_cons_succ]
 refine wpAnyH_take (i := 2) (v := ?_) rfl (by kernel_rfl) (by kernel_rfl) (by kernel_rfl) (fun _ _ _ h => h) (Or.inl ⟨by rfl, ?_⟩) (by assumption) ?_
 rotate_left
 ·intro w hSw; (try dsimp only at hSw); go_simp; (try with_reducible rfl)
 try simp only [Act.put, List.getElem_toArray, List.getElem_cons_zero, List.getElem_cons_succ, List.setIfInBounds_toArray, List.set_cons_zero, List.set_cons_succ]
 refine wpAnyH_ready (rs := [3, 8]) (by kernel_rfl) (by simp) ?_
 refine AllReadyH.cons rfl (fun K hK => ?_) (AllReadyH.cons rfl (fun K hK => ?_) AllReadyH.nil)
 ·go_simp
  refine (prog_clock n i _ _).mono ?_
  rw [Hi.out]
  rintro e w8 ⟨rfl, hb8⟩
  have hloc8 := Hloc.out.next (grownBy_trans (grownBy_drew W none) (grownBy_below hb8 none)) (fun _ h => by cases h)
  have q0 : w8.cell? ⟨w.heap.size, 0, none⟩ = some (.int .i64 n) := hloc8.cell 0 rfl 0
  have q1 : w8.cell? ⟨w.heap.size, 1, none⟩ = some (.slice aoz xs.length capz) := hloc8.cell 0 rfl 1
  have q2 : w8.cell? ⟨w.heap.size + 1, 0, none⟩ = some (.int .i64 i) := hloc8.cell 1 rfl 0
  have q3 : w8.cell? ⟨w.heap.size + 1 + 1, 0, none⟩ = some (.int .i64 c) := hloc8.cell 2 rfl 0
  refine hK.out _ _ ⟨q0, q1, q2, q3⟩ (fun hHeld2 => ?_)
  clear hK K
  try simp only [Act.put, List.getElem_toArray, List.getElem_cons_zero, List.getElem_cons_succ, List.setIfInBounds_toArray, List.set_cons_zero, List.set_cons_succ]
  refine wpAnyH_take (i := 4) (v := ?_) rfl (by kernel_rfl) (by kernel_rfl) (by kernel_rfl) (fun _ _ _ h => h) (Or.inl ⟨by rfl, ?_⟩) (by assumption) ?_
  rotate_left
  ·intro w hSw; (try dsimp only at hSw); go_simp; (try with_reducible rfl)
  try simp only [Act.put, List.getElem_toArray, List.getElem_cons_zero, List.getElem_cons_succ, List.setIfInBounds_toArray, List.set_cons_zero, List.set_cons_succ]
  refine wpAnyH_take (i := 5) rfl (by kernel_rfl) (by kernel_rfl) (by kernel_rfl) (fun _ _ _ h => h) (Or.inr ⟨by rfl, rfl⟩) (by assumption) ?_
  try simp only [Act.put, List.getElem_toArray, List.getElem_cons_zero, List.getElem_cons_succ, List.setIfInBounds_toArray, List.set_cons_zero, List.set_cons_succ]
  refine wpAnyH_take (i := 6) rfl (by kernel_rfl) (by kernel_rfl) (by kernel_rfl) (fun _ _ _ h => h) (Or.inr ⟨by rfl, rfl⟩) (by assumption) ?_
  try simp only [Act.put, List.getElem_toArray, List.getElem_cons_zero, List.getElem_cons_succ, List.setIfInBounds_toArray, List.set_cons_zero, List.set_cons_succ]
  refine wpAnyH_take (i := 7) (v := ?_) rfl (by kernel_rfl) (by kernel_rfl) (by kernel_rfl) (fun _ _ _ h => h) (Or.inl ⟨by rfl, ?_⟩) (by assumption) ?_
  rotate_left
  ·intro w hSw; (try dsimp only at hSw); go_simp; (try with_reducible rfl)
  try simp only [Act.put, List.getElem_toArray, List.getElem_cons_zero, List.getElem_cons_succ, List.setIfInBounds_toArray, List.set_cons_zero, List.set_cons_succ]
  refine wpAnyH_ready (rs := [8]) (by kernel_rfl) (by simp) ?_
  refine AllReadyH.cons rfl (fun K hK => ?_) AllReadyH.nil
  go_simp
  refine hK.out _ _ ⟨q0, q1, q2, q3⟩ (fun hHeld2 => ?_)
  clear hK K
  try simp only [Act.put, List.getElem_toArray, List.getElem_cons_zero, List.getElem_cons_succ, List.setIfInBounds_toArray, List.set_cons_zero, List.set_cons_succ]
  refine wpAnyH_ready (rs := [9]) (by kernel_rfl) (by simp) ?_
  refine AllReadyH.cons rfl (fun K hK => ?_) AllReadyH.nil
  go_simp
  refine (Key.out _ (below_grownBy hloc8.grown)).mono ?_
  rintro e w5 ⟨⟨v5, rfl, ho5⟩, hb5⟩
  obtain ⟨ao5, cap5, rfl⟩ := owns_form ho5
  have hloc5 := hloc8.next (grownBy_below hb5 none) (fun _ h => by cases h)
  have p0 : w5.cell? ⟨w.heap.size, 0, none⟩ = some (.int .i64 n) := hloc5.cell 0 rfl 0
  have p1 : w5.cell? ⟨w.heap.size, 1, none⟩ = some (.slice aoz xs.length capz) := hloc5.cell 0 rfl 1
  have p2 : w5.cell? ⟨w.heap.size + 1, 0, none⟩ = some (.int .i64 i) := hloc5.cell 1 rfl 0
  have p3 : w5.cell? ⟨w.heap.size + 1 + 1, 0, none⟩ = some (.int .i64 c) := hloc5.cell 2 rfl 0
  have r0 : w5.cell? ⟨w.heap.size + 1 + 1 + 1, 0, none⟩ = some (.int .i64 0) := hloc5.cell 3 rfl 0
  have r1 : w5.cell? ⟨w.heap.size + 1 + 1 + 1, 1, none⟩ = some (.slice none 0 0) := hloc5.cell 3 rfl 1
  have r2 : w5.frozen? ⟨w.heap.size + 1 + 1 + 1, 0, none⟩ = false := hloc5.free 3 rfl 0
  have r3 : w5.frozen? ⟨w.heap.size + 1 + 1 + 1, 1, none⟩ = false := hloc5.free 3 rfl 1
  refine hK.out _ _ ⟨p0, p1, p2, p3⟩ (fun hHeld2 => ?_)
  clear hK K
  try simp only [Act.put, List.getElem_toArray, List.getElem_cons_zero, List.getElem_cons_succ, List.setIfInBounds_toArray, List.set_cons_zero, List.set_cons_succ]
  refine wpAnyH_take (i := 10) (v := ?_) rfl (by kernel_rfl) (by kernel_rfl) (by kernel_rfl) (fun _ _ _ h => h) (Or.inl ⟨by rfl, ?_⟩) (by assumption) ?_
  rotate_left
  ·intro w hSw; (try dsimp only at hSw); go_simp; (try with_reducible rfl)
  try simp only [Act.put, List.getElem_toArray, List.getElem_cons_zero, List.getElem_cons_succ, List.setIfInBounds_toArray, List.set_cons_zero, List.set_cons_succ]
  refine wpAnyH_take (i := 11) (v := ?_) rfl (by kernel_rfl) (by kernel_rfl) (by kernel_rfl) (fun _ _ _ h => h) (Or.inl ⟨by rfl, ?_⟩) (by assumption) ?_
  rotate_left
  ·intro w hSw; (try dsimp only at hSw); go_simp; (try with_reducible rfl)
  try simp only [Act.put, List.getElem_toArray, List.getElem_cons_zero, List.getElem_cons_succ, List.setIfInBounds_toArray, List.set_cons_zero, List.set_cons_succ]
  refine wpAnyH_ready (rs := [12]) (by kernel_rfl) (by simp) ?_
  refine AllReadyH.cons rfl (fun K hK => ?_) AllReadyH.nil
  go_simp
  refine hK.out _ _ (by refine ⟨?_, ?_, ?_, ?_⟩ <;> (first | assumption | go_keep)) (fun hHeld2 => ?_)
  clear hK K
  try simp only [Act.put, List.getElem_toArray, List.getElem_cons_zero, List.getElem_cons_succ, List.setIfInBounds_toArray, List.set_cons_zero, List.set_cons_succ]
  refine wpAnyH_take (i := 13) (v := ?_) rfl (by kernel_rfl) (by kernel_rfl) (by kernel_rfl) (fun _ _ _ h => h) (Or.inl ⟨by rfl, ?_⟩) (by assumption) ?_
  rotate_left
  ·intro w hSw; (try dsimp only at hSw); go_simp; (try with_reducible rfl)
  try simp only [Act.put, List.getElem_toArray, List.getElem_cons_zero, List.getElem_cons_succ, List.setIfInBounds_toArray, List.set_cons_zero, List.set_cons_succ]
  refine wpAnyH_done (by kernel_rfl) ?_ _
  refine NoPanic.normal ?_
  go_wp2_with fail
  have Ho5 := Lib.hid (show OL 63 (w.heap.size + 4) w5 (.slice ao5 R.2.length cap5) R.2 from OL.mono ho5 (by have := hloc8.size; simp at this; omega))
  have HB5 := Lib.hid (below_grownBy hloc5.grown)
  refine bodyPost_ret (v := .tuple #[.agg #[.int .i64 (zdim R n), .slice ao5 R.2.length cap5], .int .i64 R.1]) (by simp [results, Tryz.results72, go_sem, r0, r1]) rfl ⟨⟨_, by rw [HR.out], ?_⟩, ?_⟩
  ·rw [HR.out]; exact OL.mono (base := w.heap.size + 4) (own_set2 Ho5.out (by omega) _ _) (by omega)
  ·exact (HB5.out.setCell (by simp; omega) _).setCell (by simp; omega) _
 ·go_simp
  refine hK.out _ _ ⟨z0, z1, z2, z3⟩ (fun hHeld2 => ?_)
  clear hK K
  try simp only [Act.put, List.getElem_toArray, List.getElem_cons_zero, List.getElem_cons_succ, List.setIfInBounds_toArray, List.set_cons_zero, List.set_cons_succ]
  refine wpAnyH_ready (rs := [3]) (by kernel_rfl) (by simp) ?_
  refine AllReadyH.cons rfl (fun K hK => ?_) AllReadyH.nil
  go_simp
  refine (prog_clock n i _ _).mono ?_
  rw [Hi.out]
  rintro e w8 ⟨rfl, hb8⟩
  have hloc8 := Hloc.out.next (grownBy_trans (grownBy_drew W none) (grownBy_below hb8 none)) (fun _ h => by cases h)
  have q0 : w8.cell? ⟨w.heap.size, 0, none⟩ = some (.int .i64 n) := hloc8.cell 0 rfl 0
  have q1 : w8.cell? ⟨w.heap.size, 1, none⟩ = some (.slice aoz xs.length capz) := hloc8.cell 0 rfl 1
  have q2 : w8.cell? ⟨w.heap.size + 1, 0, none⟩ = some (.int .i64 i) := hloc8.cell 1 rfl 0
  have q3 : w8.cell? ⟨w.heap.size + 1 + 1, 0, none⟩ = some (.int .i64 c) := hloc8.cell 2 rfl 0
  refine hK.out _ _ ⟨q0, q1, q2, q3⟩ (fun hHeld2 => ?_)
  clear hK K
  try simp only [Act.put, List.getElem_toArray, List.getElem_cons_zero, List.getElem_cons_succ, List.setIfInBounds_toArray, List.set_cons_zero, List.set_cons_succ]
  refine wpAnyH_take (i := 4) (v := ?_) rfl (by kernel_rfl) (by kernel_rfl) (by kernel_rfl) (fun _ _ _ h => h) (Or.inl ⟨by rfl, ?_⟩) (by assumption) ?_
  rotate_left
  ·intro w hSw; (try dsimp only at hSw); go_simp; (try with_reducible rfl)
  try simp only [Act.put, List.getElem_toArray, List.getElem_cons_zero, List.getElem_cons_succ, List.setIfInBounds_toArray, List.set_cons_zero, List.set_cons_succ]
  refine wpAnyH_take (i := 5) rfl (by kernel_rfl) (by kernel_rfl) (by kernel_rfl) (fun _ _ _ h => h) (Or.inr ⟨by rfl, rfl⟩) (by assumption) ?_
  try simp only [Act.put, List.getElem_toArray, List.getElem_cons_zero, List.getElem_cons_succ, List.setIfInBounds_toArray, List.set_cons_zero, List.set_cons_succ]
  refine wpAnyH_take (i := 6) rfl (by kernel_rfl) (by kernel_rfl) (by kernel_rfl) (fun _ _ _ h => h) (Or.inr ⟨by rfl, rfl⟩) (by assumption) ?_
  try simp only [Act.put, List.getElem_toArray, List.getElem_cons_zero, List.getElem_cons_succ, List.setIfInBounds_toArray, List.set_cons_zero, List.set_cons_succ]
  refine wpAnyH_take (i := 7) (v := ?_) rfl (by kernel_rfl) (by kernel_rfl) (by kernel_rfl) (fun _ _ _ h => h) (Or.inl ⟨by rfl, ?_⟩) (by assumption) ?_
  rotate_left
  ·intro w hSw; (try dsimp only at hSw); go_simp; (try with_reducible rfl)
  try simp only [Act.put, List.getElem_toArray, List.getElem_cons_zero, List.getElem_cons_succ, List.setIfInBounds_toArray, List.set_cons_zero, List.set_cons_succ]
  refine wpAnyH_ready (rs := [9]) (by kernel_rfl) (by simp) ?_
  refine AllReadyH.cons rfl (fun K hK => ?_) AllReadyH.nil
  go_simp
  refine (Key.out _ (below_grownBy hloc8.grown)).mono ?_
  rintro e w5 ⟨⟨v5, rfl, ho5⟩, hb5⟩
  obtain ⟨ao5, cap5, rfl⟩ := owns_form ho5
  have hloc5 := hloc8.next (grownBy_below hb5 none) (fun _ h => by cases h)
  have p0 : w5.cell? ⟨w.heap.size, 0, none⟩ = some (.int .i64 n) := hloc5.cell 0 rfl 0
  have p1 : w5.cell? ⟨w.heap.size, 1, none⟩ = some (.slice aoz xs.length capz) := hloc5.cell 0 rfl 1
  have p2 : w5.cell? ⟨w.heap.size + 1, 0, none⟩ = some (.int .i64 i) := hloc5.cell 1 rfl 0
  have p3 : w5.cell? ⟨w.heap.size + 1 + 1, 0, none⟩ = some (.int .i64 c) := hloc5.cell 2 rfl 0
  have r0 : w5.cell? ⟨w.heap.size + 1 + 1 + 1, 0, none⟩ = some (.int .i64 0) := hloc5.cell 3 rfl 0
  have r1 : w5.cell? ⟨w.heap.size + 1 + 1 + 1, 1, none⟩ = some (.slice none 0 0) := hloc5.cell 3 rfl 1
  have r2 : w5.frozen? ⟨w.heap.size + 1 + 1 + 1, 0, none⟩ = false := hloc5.free 3 rfl 0
  have r3 : w5.frozen? ⟨w.heap.size + 1 + 1 + 1, 1, none⟩ = false := hloc5.free 3 rfl 1
  refine hK.out _ _ ⟨p0, p1, p2, p3⟩ (fun hHeld2 => ?_)
  clear hK K
  try simp only [Act.put, List.getElem_toArray, List.getElem_cons_zero, List.getElem_cons_succ, List.setIfInBounds_toArray, List.set_cons_zero, List.set_cons_succ]
  refine wpAnyH_take (i := 10) (v := ?_) rfl (by kernel_rfl) (by kernel_rfl) (by kernel_rfl) (fun _ _ _ h => h) (Or.inl ⟨by rfl, ?_⟩) (by assumption) ?_
  rotate_left
  ·intro w hSw; (try dsimp only at hSw); go_simp; (try with_reducible rfl)
  try simp only [Act.put, List.getElem_toArray, List.getElem_cons_zero, List.getElem_cons_succ, List.setIfInBounds_toArray, List.set_cons_zero, List.set_cons_succ]
  refine wpAnyH_take (i := 11) (v := ?_) rfl (by kernel_rfl) (by kernel_rfl) (by kernel_rfl) (fun _ _ _ h => h) (Or.inl ⟨by rfl, ?_⟩) (by assumption) ?_
  rotate_left
  ·intro w hSw; (try dsimp only at hSw); go_simp; (try with_reducible rfl)
  try simp only [Act.put, List.getElem_toArray, List.getElem_cons_zero, List.getElem_cons_succ, List.setIfInBounds_toArray, List.set_cons_zero, List.set_cons_succ]
  refine wpAnyH_ready (rs := [12]) (by kernel_rfl) (by simp) ?_
  refine AllReadyH.cons rfl (fun K hK => ?_) AllReadyH.nil
  go_simp
  refine hK.out _ _ (by refine ⟨?_, ?_, ?_, ?_⟩ <;> (first | assumption | go_keep)) (fun hHeld2 => ?_)
  clear hK K
  try simp only [Act.put, List.getElem_toArray, List.getElem_cons_zero, List.getElem_cons_succ, List.setIfInBounds_toArray, List.set_cons_zero, List.set_cons_succ]
  refine wpAnyH_take (i := 13) (v := ?_) rfl (by kernel_rfl) (by kernel_rfl) (by kernel_rfl) (fun _ _ _ h => h) (Or.inl ⟨by rfl, ?_⟩) (by assumption) ?_
  rotate_left
  ·intro w hSw; (try dsimp only at hSw); go_simp; (try with_reducible rfl)
  try simp only [Act.put, List.getElem_toArray, List.getElem_cons_zero, List.getElem_cons_succ, List.setIfInBounds_toArray, List.set_cons_zero, List.set_cons_succ]
  refine wpAnyH_done (by kernel_rfl) ?_ _
  refine NoPanic.normal ?_
  go_wp2_with fail
  have Ho5 := Lib.hid (show OL 63 (w.heap.size + 4) w5 (.slice ao5 R.2.length cap5) R.2 from OL.mono ho5 (by have := hloc8.size; simp at this; omega))
  have HB5 := Lib.hid (below_grownBy hloc5.grown)
  refine bodyPost_ret (v := .tuple #[.agg #[.int .i64 (zdim R n), .slice ao5 R.2.length cap5], .int .i64 R.1]) (by simp [results, Tryz.results72, go_sem, r0, r1]) rfl ⟨⟨_, by rw [HR.out], ?_⟩, ?_⟩
  ·rw [HR.out]; exact OL.mono (base := w.heap.size + 4) (own_set2 Ho5.out (by omega) _ _) (by omega)
  ·exact (HB5.out.setCell (by simp; omega) _).setCell (by simp; omega) _
theorem prog_reset (n i c : Int) (zv : Value) (xs : List Int) (w : World) (hz : RL w.heap.size w zv xs) :
  Calls Tryz.prog 72 #[.agg #[.int .i64 n, zv], .int .i64 i, .int .i64 c] w fun e w' => ZPost 63 w.heap.size n (resetF n xs i c) e w' ∧ Below w.heap.size w w' := by
 cases hi : clkB n i with
 | true => exact prog_reset_in n i c zv xs w hz hi
 | false => exact prog_reset_no n i c zv xs w hz hi
end Go.Proofs.YtfphlpglgcmljaaGreat
