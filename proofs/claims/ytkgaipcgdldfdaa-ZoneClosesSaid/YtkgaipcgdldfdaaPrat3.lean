/- Contracts of the program's ratios: valid, Make, Add, Sub, Cmp, Neg. -/
import Derived.Test.YtkgaipcgdldfdaaPrat2
import Derived.Test.YtkgaipcgdldfdaaRat2
import Derived.Deep.DeepCutAuto
namespace Go.Proofs.Ytkgaipcgdldfdaa
open Go.RowKit
set_option linter.unusedVariables false

/-- A number of the machine. -/
def I64 (n : Int) : Prop := -9223372036854775808 ≤ n ∧ n ≤ 9223372036854775807
set_option maxHeartbeats 1000000 in
theorem pr_valid2 (a b c d : Int) (w : World) (ha : I64 a) (hc : I64 c) :
    Calls Try.prog 133 #[.agg #[.int .i64 a, .int .i64 b], .agg #[.int .i64 c, .int .i64 d]] w fun e w' => e = .returned (.bool (vr a b && vr c d)) ∧ Below w.heap.size w w' := by
  have hloc0 := Loc.two w (.cells #[.int .i64 a, .int .i64 b] 48) (.cells #[.int .i64 c, .int .i64 d] 48) none
  go_enter Try.func133, Try.ntmps133
  go_wp2_with fail
  refine (pr_valid a b _ ha.1 ha.2).mono ?_
  cases h1 : vr a b
  · rintro e w1 ⟨rfl, hb1⟩
    have hloc1 := hloc0.next (grownBy_below hb1 none) (fun _ h => by cases h)
    go_wp2_with fail
    go_ret
    exact ⟨ret_bool (by simp [h1]), below_grownBy hloc1.grown⟩
  · rintro e w1 ⟨rfl, hb1⟩
    have hloc1 := hloc0.next (grownBy_below hb1 none) (fun _ h => by cases h)
    have k0 : w1.cell? ⟨w.heap.size + 1, 0, none⟩ = some (.int .i64 c) := hloc1.cell 1 rfl 0
    have k1 : w1.cell? ⟨w.heap.size + 1, 1, none⟩ = some (.int .i64 d) := hloc1.cell 1 rfl 1
    clear hb1 hloc0
    go_wp2_with fail
    refine (pr_valid c d _ hc.1 hc.2).mono ?_
    rintro e w2 ⟨rfl, hb2⟩
    have hloc2 := hloc1.next (grownBy_below hb2 none) (fun _ h => by cases h)
    go_wp2_with fail
    go_ret
    exact ⟨ret_bool (by simp [h1]), below_grownBy hloc2.grown⟩
set_option maxRecDepth 100000 in
set_option maxHeartbeats 4000000 in
theorem pr_make (n d : Int) (w : World) (h1 : -9223372036854775808 ≤ n) (h2 : n ≤ 9223372036854775807) (h3 : -9223372036854775808 ≤ d) (h4 : d ≤ 9223372036854775807) :
    Calls Try.prog 136 #[.int .i64 n, .int .i64 d] w fun e w' => RE (mkR n d) e ∧ Below w.heap.size w w' := by
  have hloc0 := Loc.one w (.cells #[.int .i64 0, .int .i64 0] 48) none
  by_cases hd : d = 0
  · subst hd
    have H := Lib.hid (mkR_zero n)
    go_enter Try.func136, Try.ntmps136
    go_wp2_with fail
    refine bodyPost_ret (v := .tuple #[.agg #[.int .i64 0, .int .i64 0], .int .i64 2]) (by simp [results, Try.results136, go_sem]) rfl ⟨RE.of H.out, ?_⟩
    (repeat' (first | exact Below.refl _ _ | refine Below.setCell ?_ ?_ _ | refine Below.alloc ?_ ?_ _ | refine Below.drew ?_ | refine bdn ?_ _)) <;> (first | (simp; done) | (simp; omega))
  have hg : 0 < Nat.gcd n.natAbs d.natAbs := Nat.gcd_pos_of_pos_right _ (by omega)
  have hgb : Nat.gcd n.natAbs d.natAbs < 18446744073709551616 := by
    have := Nat.le_of_dvd (by omega) (Nat.gcd_dvd_right n.natAbs d.natAbs); omega
  have hq1 : n.natAbs / Nat.gcd n.natAbs d.natAbs ≤ 9223372036854775808 := Nat.le_trans (Nat.div_le_self _ _) (by omega)
  have hq2 : d.natAbs / Nat.gcd n.natAbs d.natAbs ≤ 9223372036854775808 := Nat.le_trans (Nat.div_le_self _ _) (by omega)
  have hd' : (d == 0) = false := by simpa using hd
  have H7 := Lib.hid (fun h => mkR_range (n := n) hd h)
  have H0 := Lib.hid (fun h => mkR_ok (n := n) hd h)
  have e1 : ((n.natAbs : Nat) : Int) / ((Nat.gcd n.natAbs d.natAbs : Nat) : Int) = ((n.natAbs / Nat.gcd n.natAbs d.natAbs : Nat) : Int) := (Int.natCast_ediv _ _).symm
  have e2 : ((d.natAbs : Nat) : Int) / ((Nat.gcd n.natAbs d.natAbs : Nat) : Int) = ((d.natAbs / Nat.gcd n.natAbs d.natAbs : Nat) : Int) := (Int.natCast_ediv _ _).symm
  generalize hN : n.natAbs / Nat.gcd n.natAbs d.natAbs = p at *
  generalize hD : d.natAbs / Nat.gcd n.natAbs d.natAbs = q at *
  generalize hG : Nat.gcd n.natAbs d.natAbs = g at *
  have HG := Lib.hid hG
  have g1 : ¬ ((g : Int) = 0) := by omega
  clear hG hN hD
  by_cases hr1 : 2147483647 < p
  · have H := Lib.hid (H7.out (.inl hr1))
    have b1 : decide ((2147483647 : Int) < (p : Int)) = true := by simp; omega
    go_enter Try.func136, Try.ntmps136
    go_wp2_with (go_at_call 146; (refine (pr_abs _ _ (by omega) (by omega)).mono ?_); rintro e w1 ⟨rfl, rfl⟩)
    refine (pr_gcd _ _ _ (by omega) (by omega)).mono ?_
    rw [HG.out]
    rintro e w1 ⟨rfl, hb1⟩
    have hloc1 := hloc0.next (grownBy_below hb1 none) (fun _ h => by cases h)
    have r0 : w1.cell? ⟨w.heap.size, 0, none⟩ = some (.int .i64 0) := hloc1.cell 0 rfl 0
    have r1 : w1.cell? ⟨w.heap.size, 1, none⟩ = some (.int .i64 0) := hloc1.cell 0 rfl 1
    have r2 : w1.frozen? ⟨w.heap.size, 0, none⟩ = false := hloc1.free 0 rfl 0
    have r3 : w1.frozen? ⟨w.heap.size, 1, none⟩ = false := hloc1.free 0 rfl 1
    have hs1 : w.heap.size + 1 ≤ w1.heap.size := hloc1.size
    have Hb := Lib.hid (below_grownBy hloc1.grown)
    clear hb1 hloc0 hloc1
    go_wp2_with fail
    go_quiet (fail)
    have u0 : (w1.drewN nq).cell? ⟨w.heap.size, 0, none⟩ = some (.int .i64 0) := r0
    have u1 : (w1.drewN nq).cell? ⟨w.heap.size, 1, none⟩ = some (.int .i64 0) := r1
    have u2 : (w1.drewN nq).frozen? ⟨w.heap.size, 0, none⟩ = false := r2
    have u3 : (w1.drewN nq).frozen? ⟨w.heap.size, 1, none⟩ = false := r3
    have hsW : w.heap.size + 1 ≤ (w1.drewN nq).heap.size := hs1
    have hlW : w.heap.size < (w1.drewN nq).heap.size := hs1
    have HbW := Lib.hid (bdn Hb.out nq)
    clear r0 r1 r2 r3 hs1 Hb
    generalize w1.drewN nq = W at *
    go_wp2_with fail
    refine bodyPost_ret (v := .tuple #[.agg #[.int .i64 (0), .int .i64 0], .int .i64 7]) (by simp [results, Try.results136, go_sem, u0, u1]) rfl ⟨RE.of H.out, ?_⟩
    (repeat' (first | exact HbW.out | refine Below.setCell ?_ ?_ _ | refine Below.alloc ?_ ?_ _ | refine Below.drew ?_ | refine bdn ?_ _)) <;> (first | (simp; done) | (simp; omega) | (show w.heap.size ≤ W.heap.size; omega))
  have b1 : decide ((2147483647 : Int) < (p : Int)) = false := by simp; omega
  by_cases hr2 : 2147483647 < q
  · have H := Lib.hid (H7.out (.inr hr2))
    have b2 : decide ((2147483647 : Int) < (q : Int)) = true := by simp; omega
    go_enter Try.func136, Try.ntmps136
    go_wp2_with (go_at_call 146; (refine (pr_abs _ _ (by omega) (by omega)).mono ?_); rintro e w1 ⟨rfl, rfl⟩)
    refine (pr_gcd _ _ _ (by omega) (by omega)).mono ?_
    rw [HG.out]
    rintro e w1 ⟨rfl, hb1⟩
    have hloc1 := hloc0.next (grownBy_below hb1 none) (fun _ h => by cases h)
    have r0 : w1.cell? ⟨w.heap.size, 0, none⟩ = some (.int .i64 0) := hloc1.cell 0 rfl 0
    have r1 : w1.cell? ⟨w.heap.size, 1, none⟩ = some (.int .i64 0) := hloc1.cell 0 rfl 1
    have r2 : w1.frozen? ⟨w.heap.size, 0, none⟩ = false := hloc1.free 0 rfl 0
    have r3 : w1.frozen? ⟨w.heap.size, 1, none⟩ = false := hloc1.free 0 rfl 1
    have hs1 : w.heap.size + 1 ≤ w1.heap.size := hloc1.size
    have Hb := Lib.hid (below_grownBy hloc1.grown)
    clear hb1 hloc0 hloc1
    go_wp2_with fail
    go_quiet (fail)
    have u0 : (w1.drewN nq).cell? ⟨w.heap.size, 0, none⟩ = some (.int .i64 0) := r0
    have u1 : (w1.drewN nq).cell? ⟨w.heap.size, 1, none⟩ = some (.int .i64 0) := r1
    have u2 : (w1.drewN nq).frozen? ⟨w.heap.size, 0, none⟩ = false := r2
    have u3 : (w1.drewN nq).frozen? ⟨w.heap.size, 1, none⟩ = false := r3
    have hsW : w.heap.size + 1 ≤ (w1.drewN nq).heap.size := hs1
    have hlW : w.heap.size < (w1.drewN nq).heap.size := hs1
    have HbW := Lib.hid (bdn Hb.out nq)
    clear r0 r1 r2 r3 hs1 Hb
    generalize w1.drewN nq = W at *
    go_wp2_with fail
    refine bodyPost_ret (v := .tuple #[.agg #[.int .i64 (0), .int .i64 0], .int .i64 7]) (by simp [results, Try.results136, go_sem, u0, u1]) rfl ⟨RE.of H.out, ?_⟩
    (repeat' (first | exact HbW.out | refine Below.setCell ?_ ?_ _ | refine Below.alloc ?_ ?_ _ | refine Below.drew ?_ | refine bdn ?_ _)) <;> (first | (simp; done) | (simp; omega) | (show w.heap.size ≤ W.heap.size; omega))
  have b2 : decide ((2147483647 : Int) < (q : Int)) = false := by simp; omega
  have H := Lib.hid (H0.out (by omega))
  by_cases n0 : n < 0 <;> by_cases d0 : d < 0
  · have H' := Lib.hid (show mkR n d = (((p : Int), (q : Int)), 0) by rw [H.out, if_pos (by omega)])
    have n1 : decide (n < 0) = true := by simpa using n0
    have d1 : decide (d < 0) = true := by simpa using d0
    go_enter Try.func136, Try.ntmps136
    go_wp2_with (go_at_call 146; (refine (pr_abs _ _ (by omega) (by omega)).mono ?_); rintro e w1 ⟨rfl, rfl⟩)
    refine (pr_gcd _ _ _ (by omega) (by omega)).mono ?_
    rw [HG.out]
    rintro e w1 ⟨rfl, hb1⟩
    have hloc1 := hloc0.next (grownBy_below hb1 none) (fun _ h => by cases h)
    have r0 : w1.cell? ⟨w.heap.size, 0, none⟩ = some (.int .i64 0) := hloc1.cell 0 rfl 0
    have r1 : w1.cell? ⟨w.heap.size, 1, none⟩ = some (.int .i64 0) := hloc1.cell 0 rfl 1
    have r2 : w1.frozen? ⟨w.heap.size, 0, none⟩ = false := hloc1.free 0 rfl 0
    have r3 : w1.frozen? ⟨w.heap.size, 1, none⟩ = false := hloc1.free 0 rfl 1
    have hs1 : w.heap.size + 1 ≤ w1.heap.size := hloc1.size
    have Hb := Lib.hid (below_grownBy hloc1.grown)
    clear hb1 hloc0 hloc1
    go_wp2_with fail
    go_quiet (fail)
    have u0 : (w1.drewN nq).cell? ⟨w.heap.size, 0, none⟩ = some (.int .i64 0) := r0
    have u1 : (w1.drewN nq).cell? ⟨w.heap.size, 1, none⟩ = some (.int .i64 0) := r1
    have u2 : (w1.drewN nq).frozen? ⟨w.heap.size, 0, none⟩ = false := r2
    have u3 : (w1.drewN nq).frozen? ⟨w.heap.size, 1, none⟩ = false := r3
    have hsW : w.heap.size + 1 ≤ (w1.drewN nq).heap.size := hs1
    have hlW : w.heap.size < (w1.drewN nq).heap.size := hs1
    have HbW := Lib.hid (bdn Hb.out nq)
    clear r0 r1 r2 r3 hs1 Hb
    generalize w1.drewN nq = W at *
    have hbox := fun o => (Below.refl W.heap.size W).alloc (Nat.le_refl _) o
    have t0 : (W.alloc (.cells #[.int .i64 ((p : Int)), .int .i64 (q : Int)] 48)).cell? ⟨w.heap.size, 0, none⟩ = some (.int .i64 0) := keepb u0 (hbox _)
    have t1 : (W.alloc (.cells #[.int .i64 ((p : Int)), .int .i64 (q : Int)] 48)).cell? ⟨w.heap.size, 1, none⟩ = some (.int .i64 0) := keepb u1 (hbox _)
    have t2 : (W.alloc (.cells #[.int .i64 ((p : Int)), .int .i64 (q : Int)] 48)).frozen? ⟨w.heap.size, 0, none⟩ = false := (((hbox _).frozen (p := ⟨w.heap.size, 0, none⟩) hlW).trans u2)
    have t3 : (W.alloc (.cells #[.int .i64 ((p : Int)), .int .i64 (q : Int)] 48)).frozen? ⟨w.heap.size, 1, none⟩ = false := (((hbox _).frozen (p := ⟨w.heap.size, 1, none⟩) hlW).trans u3)
    clear hbox
    go_upto_region 11 with fail
    have v0 := cell_of_row _ W.heap.size 0 _ _ _ (heap_alloc_new W (.cells #[.int .i64 ((p : Int)), .int .i64 (q : Int)] 48))
    have v1 := cell_of_row _ W.heap.size 1 _ _ _ (heap_alloc_new W (.cells #[.int .i64 ((p : Int)), .int .i64 (q : Int)] 48))
    have HbV := Lib.hid (HbW.out.alloc (show w.heap.size ≤ W.heap.size by omega) (.cells #[.int .i64 ((p : Int)), .int .i64 (q : Int)] 48))
    generalize W.alloc (.cells #[.int .i64 ((p : Int)), .int .i64 (q : Int)] 48) = V at *
    clear u0 u1 u2 u3 HbW
    go_wp2_with fail
    refine bodyPost_ret (v := .tuple #[.agg #[.int .i64 ((p : Int)), .int .i64 (q : Int)], .int .i64 0]) (by simp [results, Try.results136, go_sem, t0, t1]) rfl ⟨RE.of H'.out, ?_⟩
    (repeat' (first | exact HbV.out | refine Below.setCell ?_ ?_ _ | refine Below.alloc ?_ ?_ _ | refine Below.drew ?_ | refine bdn ?_ _)) <;> (first | (simp; done) | (simp; omega) | (show w.heap.size ≤ W.heap.size; omega))
  · have H' := Lib.hid (show mkR n d = ((-(p : Int), (q : Int)), 0) by rw [H.out, if_neg (by omega)])
    have n1 : decide (n < 0) = true := by simpa using n0
    have d1 : decide (d < 0) = false := by simpa using d0
    go_enter Try.func136, Try.ntmps136
    go_wp2_with (go_at_call 146; (refine (pr_abs _ _ (by omega) (by omega)).mono ?_); rintro e w1 ⟨rfl, rfl⟩)
    refine (pr_gcd _ _ _ (by omega) (by omega)).mono ?_
    rw [HG.out]
    rintro e w1 ⟨rfl, hb1⟩
    have hloc1 := hloc0.next (grownBy_below hb1 none) (fun _ h => by cases h)
    have r0 : w1.cell? ⟨w.heap.size, 0, none⟩ = some (.int .i64 0) := hloc1.cell 0 rfl 0
    have r1 : w1.cell? ⟨w.heap.size, 1, none⟩ = some (.int .i64 0) := hloc1.cell 0 rfl 1
    have r2 : w1.frozen? ⟨w.heap.size, 0, none⟩ = false := hloc1.free 0 rfl 0
    have r3 : w1.frozen? ⟨w.heap.size, 1, none⟩ = false := hloc1.free 0 rfl 1
    have hs1 : w.heap.size + 1 ≤ w1.heap.size := hloc1.size
    have Hb := Lib.hid (below_grownBy hloc1.grown)
    clear hb1 hloc0 hloc1
    go_wp2_with fail
    go_quiet (fail)
    have u0 : (w1.drewN nq).cell? ⟨w.heap.size, 0, none⟩ = some (.int .i64 0) := r0
    have u1 : (w1.drewN nq).cell? ⟨w.heap.size, 1, none⟩ = some (.int .i64 0) := r1
    have u2 : (w1.drewN nq).frozen? ⟨w.heap.size, 0, none⟩ = false := r2
    have u3 : (w1.drewN nq).frozen? ⟨w.heap.size, 1, none⟩ = false := r3
    have hsW : w.heap.size + 1 ≤ (w1.drewN nq).heap.size := hs1
    have hlW : w.heap.size < (w1.drewN nq).heap.size := hs1
    have HbW := Lib.hid (bdn Hb.out nq)
    clear r0 r1 r2 r3 hs1 Hb
    generalize w1.drewN nq = W at *
    have hbox := fun o => (Below.refl W.heap.size W).alloc (Nat.le_refl _) o
    have t0 : (W.alloc (.cells #[.int .i64 (-(p : Int)), .int .i64 (q : Int)] 48)).cell? ⟨w.heap.size, 0, none⟩ = some (.int .i64 0) := keepb u0 (hbox _)
    have t1 : (W.alloc (.cells #[.int .i64 (-(p : Int)), .int .i64 (q : Int)] 48)).cell? ⟨w.heap.size, 1, none⟩ = some (.int .i64 0) := keepb u1 (hbox _)
    have t2 : (W.alloc (.cells #[.int .i64 (-(p : Int)), .int .i64 (q : Int)] 48)).frozen? ⟨w.heap.size, 0, none⟩ = false := (((hbox _).frozen (p := ⟨w.heap.size, 0, none⟩) hlW).trans u2)
    have t3 : (W.alloc (.cells #[.int .i64 (-(p : Int)), .int .i64 (q : Int)] 48)).frozen? ⟨w.heap.size, 1, none⟩ = false := (((hbox _).frozen (p := ⟨w.heap.size, 1, none⟩) hlW).trans u3)
    clear hbox
    go_upto_region 11 with fail
    have v0 := cell_of_row _ W.heap.size 0 _ _ _ (heap_alloc_new W (.cells #[.int .i64 (-(p : Int)), .int .i64 (q : Int)] 48))
    have v1 := cell_of_row _ W.heap.size 1 _ _ _ (heap_alloc_new W (.cells #[.int .i64 (-(p : Int)), .int .i64 (q : Int)] 48))
    have HbV := Lib.hid (HbW.out.alloc (show w.heap.size ≤ W.heap.size by omega) (.cells #[.int .i64 (-(p : Int)), .int .i64 (q : Int)] 48))
    generalize W.alloc (.cells #[.int .i64 (-(p : Int)), .int .i64 (q : Int)] 48) = V at *
    clear u0 u1 u2 u3 HbW
    go_wp2_with fail
    refine bodyPost_ret (v := .tuple #[.agg #[.int .i64 (-(p : Int)), .int .i64 (q : Int)], .int .i64 0]) (by simp [results, Try.results136, go_sem, t0, t1]) rfl ⟨RE.of H'.out, ?_⟩
    (repeat' (first | exact HbV.out | refine Below.setCell ?_ ?_ _ | refine Below.alloc ?_ ?_ _ | refine Below.drew ?_ | refine bdn ?_ _)) <;> (first | (simp; done) | (simp; omega) | (show w.heap.size ≤ W.heap.size; omega))
  · have H' := Lib.hid (show mkR n d = ((-(p : Int), (q : Int)), 0) by rw [H.out, if_neg (by omega)])
    have n1 : decide (n < 0) = false := by simpa using n0
    have d1 : decide (d < 0) = true := by simpa using d0
    go_enter Try.func136, Try.ntmps136
    go_wp2_with (go_at_call 146; (refine (pr_abs _ _ (by omega) (by omega)).mono ?_); rintro e w1 ⟨rfl, rfl⟩)
    refine (pr_gcd _ _ _ (by omega) (by omega)).mono ?_
    rw [HG.out]
    rintro e w1 ⟨rfl, hb1⟩
    have hloc1 := hloc0.next (grownBy_below hb1 none) (fun _ h => by cases h)
    have r0 : w1.cell? ⟨w.heap.size, 0, none⟩ = some (.int .i64 0) := hloc1.cell 0 rfl 0
    have r1 : w1.cell? ⟨w.heap.size, 1, none⟩ = some (.int .i64 0) := hloc1.cell 0 rfl 1
    have r2 : w1.frozen? ⟨w.heap.size, 0, none⟩ = false := hloc1.free 0 rfl 0
    have r3 : w1.frozen? ⟨w.heap.size, 1, none⟩ = false := hloc1.free 0 rfl 1
    have hs1 : w.heap.size + 1 ≤ w1.heap.size := hloc1.size
    have Hb := Lib.hid (below_grownBy hloc1.grown)
    clear hb1 hloc0 hloc1
    go_wp2_with fail
    go_quiet (fail)
    have u0 : (w1.drewN nq).cell? ⟨w.heap.size, 0, none⟩ = some (.int .i64 0) := r0
    have u1 : (w1.drewN nq).cell? ⟨w.heap.size, 1, none⟩ = some (.int .i64 0) := r1
    have u2 : (w1.drewN nq).frozen? ⟨w.heap.size, 0, none⟩ = false := r2
    have u3 : (w1.drewN nq).frozen? ⟨w.heap.size, 1, none⟩ = false := r3
    have hsW : w.heap.size + 1 ≤ (w1.drewN nq).heap.size := hs1
    have hlW : w.heap.size < (w1.drewN nq).heap.size := hs1
    have HbW := Lib.hid (bdn Hb.out nq)
    clear r0 r1 r2 r3 hs1 Hb
    generalize w1.drewN nq = W at *
    have hbox := fun o => (Below.refl W.heap.size W).alloc (Nat.le_refl _) o
    have t0 : (W.alloc (.cells #[.int .i64 (-(p : Int)), .int .i64 (q : Int)] 48)).cell? ⟨w.heap.size, 0, none⟩ = some (.int .i64 0) := keepb u0 (hbox _)
    have t1 : (W.alloc (.cells #[.int .i64 (-(p : Int)), .int .i64 (q : Int)] 48)).cell? ⟨w.heap.size, 1, none⟩ = some (.int .i64 0) := keepb u1 (hbox _)
    have t2 : (W.alloc (.cells #[.int .i64 (-(p : Int)), .int .i64 (q : Int)] 48)).frozen? ⟨w.heap.size, 0, none⟩ = false := (((hbox _).frozen (p := ⟨w.heap.size, 0, none⟩) hlW).trans u2)
    have t3 : (W.alloc (.cells #[.int .i64 (-(p : Int)), .int .i64 (q : Int)] 48)).frozen? ⟨w.heap.size, 1, none⟩ = false := (((hbox _).frozen (p := ⟨w.heap.size, 1, none⟩) hlW).trans u3)
    clear hbox
    go_upto_region 11 with fail
    have v0 := cell_of_row _ W.heap.size 0 _ _ _ (heap_alloc_new W (.cells #[.int .i64 (-(p : Int)), .int .i64 (q : Int)] 48))
    have v1 := cell_of_row _ W.heap.size 1 _ _ _ (heap_alloc_new W (.cells #[.int .i64 (-(p : Int)), .int .i64 (q : Int)] 48))
    have HbV := Lib.hid (HbW.out.alloc (show w.heap.size ≤ W.heap.size by omega) (.cells #[.int .i64 (-(p : Int)), .int .i64 (q : Int)] 48))
    generalize W.alloc (.cells #[.int .i64 (-(p : Int)), .int .i64 (q : Int)] 48) = V at *
    clear u0 u1 u2 u3 HbW
    go_wp2_with fail
    refine bodyPost_ret (v := .tuple #[.agg #[.int .i64 (-(p : Int)), .int .i64 (q : Int)], .int .i64 0]) (by simp [results, Try.results136, go_sem, t0, t1]) rfl ⟨RE.of H'.out, ?_⟩
    (repeat' (first | exact HbV.out | refine Below.setCell ?_ ?_ _ | refine Below.alloc ?_ ?_ _ | refine Below.drew ?_ | refine bdn ?_ _)) <;> (first | (simp; done) | (simp; omega) | (show w.heap.size ≤ W.heap.size; omega))
  · have H' := Lib.hid (show mkR n d = (((p : Int), (q : Int)), 0) by rw [H.out, if_pos (by omega)])
    have n1 : decide (n < 0) = false := by simpa using n0
    have d1 : decide (d < 0) = false := by simpa using d0
    go_enter Try.func136, Try.ntmps136
    go_wp2_with (go_at_call 146; (refine (pr_abs _ _ (by omega) (by omega)).mono ?_); rintro e w1 ⟨rfl, rfl⟩)
    refine (pr_gcd _ _ _ (by omega) (by omega)).mono ?_
    rw [HG.out]
    rintro e w1 ⟨rfl, hb1⟩
    have hloc1 := hloc0.next (grownBy_below hb1 none) (fun _ h => by cases h)
    have r0 : w1.cell? ⟨w.heap.size, 0, none⟩ = some (.int .i64 0) := hloc1.cell 0 rfl 0
    have r1 : w1.cell? ⟨w.heap.size, 1, none⟩ = some (.int .i64 0) := hloc1.cell 0 rfl 1
    have r2 : w1.frozen? ⟨w.heap.size, 0, none⟩ = false := hloc1.free 0 rfl 0
    have r3 : w1.frozen? ⟨w.heap.size, 1, none⟩ = false := hloc1.free 0 rfl 1
    have hs1 : w.heap.size + 1 ≤ w1.heap.size := hloc1.size
    have Hb := Lib.hid (below_grownBy hloc1.grown)
    clear hb1 hloc0 hloc1
    go_wp2_with fail
    go_quiet (fail)
    have u0 : (w1.drewN nq).cell? ⟨w.heap.size, 0, none⟩ = some (.int .i64 0) := r0
    have u1 : (w1.drewN nq).cell? ⟨w.heap.size, 1, none⟩ = some (.int .i64 0) := r1
    have u2 : (w1.drewN nq).frozen? ⟨w.heap.size, 0, none⟩ = false := r2
    have u3 : (w1.drewN nq).frozen? ⟨w.heap.size, 1, none⟩ = false := r3
    have hsW : w.heap.size + 1 ≤ (w1.drewN nq).heap.size := hs1
    have hlW : w.heap.size < (w1.drewN nq).heap.size := hs1
    have HbW := Lib.hid (bdn Hb.out nq)
    clear r0 r1 r2 r3 hs1 Hb
    generalize w1.drewN nq = W at *
    have hbox := fun o => (Below.refl W.heap.size W).alloc (Nat.le_refl _) o
    have t0 : (W.alloc (.cells #[.int .i64 ((p : Int)), .int .i64 (q : Int)] 48)).cell? ⟨w.heap.size, 0, none⟩ = some (.int .i64 0) := keepb u0 (hbox _)
    have t1 : (W.alloc (.cells #[.int .i64 ((p : Int)), .int .i64 (q : Int)] 48)).cell? ⟨w.heap.size, 1, none⟩ = some (.int .i64 0) := keepb u1 (hbox _)
    have t2 : (W.alloc (.cells #[.int .i64 ((p : Int)), .int .i64 (q : Int)] 48)).frozen? ⟨w.heap.size, 0, none⟩ = false := (((hbox _).frozen (p := ⟨w.heap.size, 0, none⟩) hlW).trans u2)
    have t3 : (W.alloc (.cells #[.int .i64 ((p : Int)), .int .i64 (q : Int)] 48)).frozen? ⟨w.heap.size, 1, none⟩ = false := (((hbox _).frozen (p := ⟨w.heap.size, 1, none⟩) hlW).trans u3)
    clear hbox
    go_upto_region 11 with fail
    have v0 := cell_of_row _ W.heap.size 0 _ _ _ (heap_alloc_new W (.cells #[.int .i64 ((p : Int)), .int .i64 (q : Int)] 48))
    have v1 := cell_of_row _ W.heap.size 1 _ _ _ (heap_alloc_new W (.cells #[.int .i64 ((p : Int)), .int .i64 (q : Int)] 48))
    have HbV := Lib.hid (HbW.out.alloc (show w.heap.size ≤ W.heap.size by omega) (.cells #[.int .i64 ((p : Int)), .int .i64 (q : Int)] 48))
    generalize W.alloc (.cells #[.int .i64 ((p : Int)), .int .i64 (q : Int)] 48) = V at *
    clear u0 u1 u2 u3 HbW
    go_wp2_with fail
    refine bodyPost_ret (v := .tuple #[.agg #[.int .i64 ((p : Int)), .int .i64 (q : Int)], .int .i64 0]) (by simp [results, Try.results136, go_sem, t0, t1]) rfl ⟨RE.of H'.out, ?_⟩
    (repeat' (first | exact HbV.out | refine Below.setCell ?_ ?_ _ | refine Below.alloc ?_ ?_ _ | refine Below.drew ?_ | refine bdn ?_ _)) <;> (first | (simp; done) | (simp; omega) | (show w.heap.size ≤ W.heap.size; omega))
end Go.Proofs.Ytkgaipcgdldfdaa
