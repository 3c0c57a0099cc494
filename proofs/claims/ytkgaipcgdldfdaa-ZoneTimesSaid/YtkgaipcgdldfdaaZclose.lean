/- The contract of the program's Close: it returns what the reference's returns. -/
import Derived.Test.YtkgaipcgdldfdaaZzone
namespace Go.Proofs.Ytkgaipcgdldfdaa
open Go.RowKit

theorem closeF_no {n : Int} {xs : List Int} (h : dimF n xs = false) : closeF n xs = (2, []) := by
  unfold closeF
  rw [if_pos]
  unfold dimF at h
  simp only [decide_eq_false_iff_not] at h
  by_cases a : n < 0 ∨ 10 < n
  · exact .inl a
  · by_cases b : xs.length = (n.toNat + 1) * (n.toNat + 1)
    · exact .inr (.inr (by rw [Bool.eq_false_iff]; exact fun c => h ⟨by omega, by omega, b, c⟩))
    · exact .inr (.inl b)
theorem closeF_yes {N : Nat} {xs : List Int} (h : dimF N xs = true) : closeF N xs = closedF N xs := by
  obtain ⟨h1, h2, h3⟩ := dimF_nat h
  unfold closeF
  rw [if_neg, Int.toNat_natCast]
  rintro (a | a | a)
  · omega
  · exact a (by rw [Int.toNat_natCast]; exact h2)
  · rw [h3] at a; cases a

set_option maxHeartbeats 1000000 in
theorem prog_close_no (n : Int) (v : Value) (xs : List Int) (w : World) (hv : RL w.heap.size w v xs) (hd : dimF n xs = false) :
    Calls Try.prog 22 #[.int .i64 n, v] w fun e w' => ZPost 60 w.heap.size n (closeF n xs) e w' ∧ Below w.heap.size w w' := by
  have Hd := Lib.hid hd
  have hres := Lib.hid (closeF_no hd)
  obtain ⟨ao, cap, rfl, _⟩ := hv.open
  have Hw := Lib.hid (hv.keepb ((Below.refl w.heap.size w).alloc (Nat.le_refl _) (.cells #[.int .i64 0, .slice none 0 0] 24)))
  clear hd hv
  go_enter Try.func22, Try.ntmps22
  go_wp2_with (go_at_call 69; refine (prog_dimension _ _ _ _ Hw.out).mono ?_; rw [Hd.out]; rintro e w1 ⟨rfl, rfl⟩)
  refine bodyPost_ret (v := .tuple #[.agg #[.int .i64 0, .slice none 0 0], .int .i64 2]) (by simp [results, Try.results22, go_sem]) rfl ⟨ZPost.err hres.out (by omega) _, ?_⟩
  exact (Below.refl _ _).alloc (Nat.le_refl _) _

set_option maxHeartbeats 1000000 in
theorem prog_close_yes (N : Nat) (v : Value) (xs : List Int) (w : World) (hv : RL w.heap.size w v xs) (hd : dimF N xs = true) :
    Calls Try.prog 22 #[.int .i64 N, v] w fun e w' => ZPost 60 w.heap.size N (closeF N xs) e w' ∧ Below w.heap.size w w' := by
  obtain ⟨hN, hx, hall⟩ := dimF_nat hd
  have Hd := Lib.hid hd
  have hres := Lib.hid ((closeF_yes hd).trans (progZ_eq hx hall).symm)
  have Hx := Lib.hid hx
  obtain ⟨ao, cap, rfl, _⟩ := hv.open
  have Hw := Lib.hid (hv.keepb ((Below.refl w.heap.size w).alloc (Nat.le_refl _) (.cells #[.int .i64 0, .slice none 0 0] 24)))
  have Hloc := Lib.hid (Loc.one w (.cells #[.int .i64 0, .slice none 0 0] 24) none)
  clear hd hv hx hall
  go_enter Try.func22, Try.ntmps22
  go_wp2_with (go_at_call 69; refine (prog_dimension _ _ _ _ Hw.out).mono ?_; rw [Hd.out]; rintro e w1 ⟨rfl, rfl⟩)
  refine (prog_of N _ xs _ Hw.out hN Hx.out).mono ?_
  rintro e w1 ⟨rv, av, rfl, hm, hb1⟩
  have hloc1 := Hloc.out.next (grownBy_below hb1 none) (fun _ h => by cases h)
  have Hm := Lib.hid hm
  have Hb1 := Lib.hid hb1
  clear hm hb1
  go_wp2_with fail
  refine (prog_zone N _ _ xs _ w1 Hm.out (Hb1.out.size) hN Hx.out).mono ?_
  rintro e w2 ⟨⟨v2, rfl, hown2⟩, hb2⟩
  obtain ⟨ao2, c2, rfl⟩ := owns_form hown2
  have hb3 : Below (w.heap.size + 1) w1 w2 := hb2.mono (by simp)
  have r0 : w2.cell? ⟨w.heap.size, 0, none⟩ = some (.int .i64 0) := ((bcell hb3).1 _ _ (by omega)).trans (hloc1.cell 0 rfl 0)
  have r1 : w2.cell? ⟨w.heap.size, 1, none⟩ = some (.slice none 0 0) := ((bcell hb3).1 _ _ (by omega)).trans (hloc1.cell 0 rfl 1)
  have r2 : w2.frozen? ⟨w.heap.size, 0, none⟩ = false := ((bcell hb3).2 _ _ (by omega)).trans (hloc1.free 0 rfl 0)
  have r3 : w2.frozen? ⟨w.heap.size, 1, none⟩ = false := ((bcell hb3).2 _ _ (by omega)).trans (hloc1.free 0 rfl 1)
  have Hown2 := Lib.hid (show OL 60 (w.heap.size + 1) w2 (.slice ao2 (progZ N xs).2.length c2) (progZ N xs).2 from OL.mono hown2 (by simp))
  have Hb2 := Lib.hid hb3
  clear hown2 hb2 hb3
  go_wp2_with fail
  refine bodyPost_ret (v := .tuple #[.agg #[.int .i64 (zdim (progZ N xs) N), .slice ao2 (progZ N xs).2.length c2], .int .i64 (progZ N xs).1]) (by simp [results, Try.results22, go_sem, r0, r1]) rfl ⟨⟨_, by rw [hres.out], ?_⟩, ?_⟩
  · rw [hres.out]
    exact OL.mono (base := w.heap.size + 1) (own_set2 Hown2.out (Nat.lt_succ_self _) _ _) (by omega)
  · exact ((((below_grownBy hloc1.grown).trans (Hb2.out.mono (by omega))).setCell (by simp) _).setCell (by simp) _)
theorem prog_close (n : Int) (v : Value) (xs : List Int) (w : World) (hv : RL w.heap.size w v xs) :
    Calls Try.prog 22 #[.int .i64 n, v] w fun e w' => ZPost 60 w.heap.size n (closeF n xs) e w' ∧ Below w.heap.size w w' := by
  by_cases hd : dimF n xs = true
  · have : 0 ≤ n := by unfold dimF at hd; simp only [decide_eq_true_eq] at hd; exact hd.1
    obtain ⟨N, rfl⟩ := Int.eq_ofNat_of_zero_le this
    exact prog_close_yes N v xs w hv hd
  · exact prog_close_no n v xs w hv (by simpa using hd)
end Go.Proofs.Ytkgaipcgdldfdaa
