/- A zone of one limit: the program's filled, Zero, All. -/
import Derived.Test.YtkgaipcgdldfdaaRep
import Derived.Test.YtkgaipcgdldfdaaZzone
import Derived.Test.YtkgaipcgdldfdaaZclose
import Derived.Test.YtkgaipcgdldfdaaRand
namespace Go.Proofs.Ytkgaipcgdldfdaa
open Go.RowKit
set_option linter.unusedVariables false

theorem all_rep (M : Nat) {l : Int} (h : vld l = true) : (List.replicate M l).all vld = true := by
  rw [List.all_eq_true]; intro x hx; rw [List.eq_of_mem_replicate hx]; exact h
theorem rl_one (w : World) (l : Int) (e : Nat) : RL (w.alloc (.cells #[.int .i64 l] e)).heap.size (w.alloc (.cells #[.int .i64 l] e)) (.slice (some ⟨w.heap.size, 0, none⟩) 1 1) [l] := by
  have := rs_one w (.int .i64 l) e
  have h2 : RS (w.heap.size + 1) (w.alloc (.cells #[.int .i64 l] e)) (.slice (some ⟨w.heap.size, 0, none⟩) 1 1) 1 [.int .i64 l] := this
  have h3 : (w.alloc (.cells #[.int .i64 l] e)).heap.size = w.heap.size + 1 := by simp
  rw [h3]; exact h2
theorem rl_one2 (w : World) (o : Obj) (l : Int) (e : Nat) : RL ((w.alloc o).alloc (.cells #[.int .i64 l] e)).heap.size ((w.alloc o).alloc (.cells #[.int .i64 l] e)) (.slice (some ⟨w.heap.size + 1, 0, none⟩) 1 1) [l] := by
  have := rl_one (w.alloc o) l e
  have h3 : (w.alloc o).heap.size = w.heap.size + 1 := by simp
  rw [h3] at this; exact this

set_option maxHeartbeats 1000000 in
theorem prog_filled_bad (n l : Int) (w : World) (hn : ¬ (0 ≤ n ∧ n ≤ 10)) :
    Calls Try.prog 79 #[.int .i64 n, .int .i64 l] w fun e w' => ZPost 60 w.heap.size n (fillF n l) e w' ∧ Below w.heap.size w w' := by
  have hres := Lib.hid (fillF_no (l := l) hn)
  by_cases h0 : n < 0
  · have e0 : decide (n < 0) = true := by simpa using h0
    clear hn h0
    go_enter Try.func79, Try.ntmps79
    go_wp2_with fail
    refine bodyPost_ret (v := .tuple #[.agg #[.int .i64 0, .slice none 0 0], .int .i64 2]) (by simp [results, Try.results79, go_sem]) rfl ⟨ZPost.err hres.out (by omega) _, ?_⟩
    exact (Below.refl _ _).alloc (Nat.le_refl _) _
  · have e0 : decide (n < 0) = false := by simpa using h0
    have e1 : decide (10 < n) = true := by simp; omega
    clear hn h0
    go_enter Try.func79, Try.ntmps79
    go_wp2_with fail
    refine bodyPost_ret (v := .tuple #[.agg #[.int .i64 0, .slice none 0 0], .int .i64 2]) (by simp [results, Try.results79, go_sem]) rfl ⟨ZPost.err hres.out (by omega) _, ?_⟩
    exact (Below.refl _ _).alloc (Nat.le_refl _) _

set_option maxRecDepth 100000 in
set_option maxHeartbeats 2000000 in
theorem prog_filled_in (N : Nat) (l : Int) (w : World) (hN : N ≤ 10) (hl : vld l = true) :
    Calls Try.prog 79 #[.int .i64 N, .int .i64 l] w fun e w' => ZPost 60 w.heap.size N (fillF N l) e w' ∧ Below w.heap.size w w' := by
  have hM0 : (N + 1) * (N + 1) ≤ 11 * 11 := Nat.mul_le_mul (by omega) (by omega)
  have hMp : 0 < (N + 1) * (N + 1) := Nat.mul_pos (by omega) (by omega)
  have hcast : ((N : Int) + 1) * ((N : Int) + 1) = (((N + 1) * (N + 1) : Nat) : Int) := by push_cast; rfl
  have hmul : IntKind.i64.wrap (((N : Int) + 1) * ((N : Int) + 1)) = (((N + 1) * (N + 1) : Nat) : Int) := by rw [hcast]; exact IntWalk.i64_in _ (by omega)
  have hres := Lib.hid (show progZ N (List.replicate ((N + 1) * (N + 1)) l) = fillF N l from (progZ_eq (by simp) (all_rep _ hl)).trans (fillF_yes hN).symm)
  have e0 : decide ((N : Int) < 0) = false := by simp
  have e1 : decide (10 < (N : Int)) = false := by simp; omega
  have Hloc := Lib.hid (Loc.one w (.cells #[.int .i64 0, .slice none 0 0] 24) none)
  generalize hM : (N + 1) * (N + 1) = M at *
  have HM := Lib.hid (show (List.replicate M l).length = (N + 1) * (N + 1) by simp [hM])
  clear hM hcast
  go_enter Try.func79, Try.ntmps79
  go_wp2_with fail
  refine (prog_repeat M l _ _ (rl_one2 w (.cells #[.int .i64 0, .slice none 0 0] 24) l 60) (by omega) hMp).mono ?_
  rintro e w1 ⟨v1, rfl, hown1, hb1⟩
  obtain ⟨ao1, cap1, rfl⟩ := owns_form hown1
  have hloc1 := (Hloc.out.next (World.grownBy_alloc _ _ none) (fun _ h => by cases h)).next (grownBy_below hb1 none) (fun _ h => by cases h)
  have Hown1 := Lib.hid (show RL w1.heap.size w1 (.slice ao1 M cap1) (List.replicate M l) by have := OL.rl hown1; rwa [List.length_replicate] at this)
  clear hown1 hb1
  go_wp2_with fail
  refine (prog_of N _ (List.replicate M l) _ Hown1.out hN HM.out).mono ?_
  rintro e w2 ⟨rv, av, rfl, hm, hb2⟩
  have hloc2 := hloc1.next (grownBy_below hb2 none) (fun _ h => by cases h)
  have Hm := Lib.hid hm
  have Hb2 := Lib.hid hb2.size
  have Hs1 := Lib.hid (show w.heap.size + 1 ≤ w1.heap.size from hloc1.size)
  clear hm hb2 hloc1
  go_wp2_with fail
  refine (prog_zone N _ _ (List.replicate M l) _ w2 Hm.out Hb2.out hN HM.out).mono ?_
  rw [hres.out]
  generalize hR : fillF N l = R
  have HR := Lib.hid hR
  clear hR
  rintro e w5 ⟨⟨v5, rfl, ho5⟩, hb5⟩
  obtain ⟨ao5, cap5, rfl⟩ := owns_form ho5
  have hb6 : Below (w.heap.size + 1) w2 w5 := hb5.mono Hs1.out
  have hloc5 := hloc2.belowB hb6 (by simp)
  have r0 : w5.cell? ⟨w.heap.size, 0, none⟩ = some (.int .i64 0) := hloc5.cell 0 rfl 0
  have r1 : w5.cell? ⟨w.heap.size, 1, none⟩ = some (.slice none 0 0) := hloc5.cell 0 rfl 1
  have r2 : w5.frozen? ⟨w.heap.size, 0, none⟩ = false := hloc5.free 0 rfl 0
  have r3 : w5.frozen? ⟨w.heap.size, 1, none⟩ = false := hloc5.free 0 rfl 1
  have Ho5 := Lib.hid (show OL 60 (w.heap.size + 1) w5 (.slice ao5 R.2.length cap5) R.2 from OL.mono ho5 Hs1.out)
  have HB5 := Lib.hid (below_grownBy hloc5.grown)
  clear ho5 hb5 hb6 hloc5 hloc2
  go_wp2_with fail
  refine bodyPost_ret (v := .tuple #[.agg #[.int .i64 (zdim R N), .slice ao5 R.2.length cap5], .int .i64 R.1]) (by simp [results, Try.results79, go_sem, r0, r1]) rfl ⟨⟨_, by rw [HR.out], ?_⟩, ?_⟩
  · rw [HR.out]; exact OL.mono (base := w.heap.size + 1) (own_set2 Ho5.out (by omega) _ _) (by omega)
  · exact (HB5.out.setCell (by simp) _).setCell (by simp) _
theorem prog_filled (n l : Int) (w : World) (hl : vld l = true) :
    Calls Try.prog 79 #[.int .i64 n, .int .i64 l] w fun e w' => ZPost 60 w.heap.size n (fillF n l) e w' ∧ Below w.heap.size w w' := by
  by_cases h : 0 ≤ n ∧ n ≤ 10
  · obtain ⟨N, rfl⟩ := Int.eq_ofNat_of_zero_le h.1
    exact prog_filled_in N l w (by omega) hl
  · exact prog_filled_bad n l w h

set_option maxHeartbeats 1000000 in
theorem prog_all (n : Int) (w : World) :
    Calls Try.prog 30 #[.int .i64 n] w fun e w' => ZPost 60 w.heap.size n (fillF n 1099511627776) e w' ∧ Below w.heap.size w w' := by
  have Hloc := Lib.hid (Loc.one w (.cells #[.int .i64 0, .slice none 0 0] 24) none)
  go_enter Try.func30, Try.ntmps30
  go_wp2_with fail
  refine (prog_filled n _ _ (by decide)).mono ?_
  generalize hR : fillF n _ = R
  have HR := Lib.hid hR
  clear hR
  rintro e w5 ⟨⟨v5, rfl, ho5⟩, hb5⟩
  obtain ⟨ao5, cap5, rfl⟩ := owns_form ho5
  have hloc5 := Hloc.out.next (grownBy_below hb5 none) (fun _ h => by cases h)
  have r0 : w5.cell? ⟨w.heap.size, 0, none⟩ = some (.int .i64 0) := hloc5.cell 0 rfl 0
  have r1 : w5.cell? ⟨w.heap.size, 1, none⟩ = some (.slice none 0 0) := hloc5.cell 0 rfl 1
  have r2 : w5.frozen? ⟨w.heap.size, 0, none⟩ = false := hloc5.free 0 rfl 0
  have r3 : w5.frozen? ⟨w.heap.size, 1, none⟩ = false := hloc5.free 0 rfl 1
  have Ho5 := Lib.hid (show OL 60 (w.heap.size + 1) w5 (.slice ao5 R.2.length cap5) R.2 from OL.mono ho5 (by simp))
  have HB5 := Lib.hid (below_grownBy hloc5.grown)
  clear ho5 hb5 hloc5
  go_wp2_with fail
  refine bodyPost_ret (v := .tuple #[.agg #[.int .i64 (zdim R n), .slice ao5 R.2.length cap5], .int .i64 R.1]) (by simp [results, Try.results30, go_sem, r0, r1]) rfl ⟨⟨_, by rw [HR.out], ?_⟩, ?_⟩
  · rw [HR.out]; exact OL.mono (base := w.heap.size + 1) (own_set2 Ho5.out (by omega) _ _) (by omega)
  · exact (HB5.out.setCell (by simp) _).setCell (by simp) _
end Go.Proofs.Ytkgaipcgdldfdaa
