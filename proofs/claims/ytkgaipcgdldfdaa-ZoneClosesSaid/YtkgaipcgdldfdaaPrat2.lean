/- Contracts of the program's ratios: gcd, Valid, valid, Make. -/
import Derived.Test.YtkgaipcgdldfdaaPrat
import Derived.Test.YtkgaipcgdldfdaaWid1
import Derived.Laws.EntriesVeiled
namespace Go.Proofs.Ytkgaipcgdldfdaa
open Go.RowKit
set_option linter.unusedVariables false

set_option maxHeartbeats 1000000 in
theorem pr_gcd (x y : Nat) (w : World) (h1 : x < 18446744073709551616) (h2 : y < 18446744073709551616) :
    Calls Try.prog 147 #[.int .u64 x, .int .u64 y] w fun e w' => e = .returned (.int .u64 (Nat.gcd x y)) ∧ Below w.heap.size w w' := by
  go_enter Try.func147, Try.ntmps147
  have hb : Below w.heap.size w (w.alloc (.cells #[.func (.func 155) #[] #[.pointer (some ⟨w.heap.size, 0, none⟩)]] 137)) := (Below.refl _ _).alloc (Nat.le_refl _) _
  have hc : (w.alloc (.cells #[.func (.func 155) #[] #[.pointer (some ⟨w.heap.size, 0, none⟩)]] 137)).cell? ⟨w.heap.size, 0, none⟩ = some (.func (.func 155) #[] #[.pointer (some ⟨w.heap.size, 0, none⟩)]) := cell_of_row _ w.heap.size 0 _ _ _ (heap_alloc_new w _)
  go_wp2_with fail
  refine (pr_step _ y x y _ (Nat.le_refl _) h1 h2 hc).mono ?_
  rintro e w' ⟨rfl, k, rfl⟩
  go_wp2_with fail
  go_ret
  exact ⟨rfl, bdn hb _⟩

set_option maxRecDepth 100000 in
set_option maxHeartbeats 4000000 in
theorem pr_valid (n d : Int) (w : World) (hw1 : -9223372036854775808 ≤ n) (hw2 : n ≤ 9223372036854775807) :
    Calls Try.prog 128 #[.agg #[.int .i64 n, .int .i64 d]] w fun e w' => e = .returned (.bool (vr n d)) ∧ Below w.heap.size w w' := by
  have hloc0 := Loc.one w (.cells #[.int .i64 n, .int .i64 d] 48) none
  have Hb0 := Lib.hid (below_grownBy hloc0.grown)
  by_cases h1 : 0 < d
  rotate_left
  · have H := Lib.hid (vr_no (n := n) (d := d) (fun h => by omega))
    have hd : decide (0 < d) = false := by simpa using h1
    go_enter Try.func128, Try.ntmps128
    go_wp2_with fail
    go_quiet (fail)
    go_wp2_with fail
    go_ret
    exact ⟨ret_bool H.out.symm, bdn Hb0.out _⟩
  have hd1 : decide (0 < d) = true := by simpa using h1
  by_cases h2 : d ≤ 2147483647
  rotate_left
  · have H := Lib.hid (vr_no (n := n) (d := d) (fun h => by omega))
    have hd : decide (d ≤ 2147483647) = false := by simpa using h2
    go_enter Try.func128, Try.ntmps128
    go_wp2_with fail
    go_quiet (fail)
    go_wp2_with fail
    go_ret
    exact ⟨ret_bool H.out.symm, bdn Hb0.out _⟩
  have hd2 : decide (d ≤ 2147483647) = true := by simpa using h2
  by_cases h3 : n.natAbs ≤ 2147483647
  rotate_left
  · have H := Lib.hid (vr_no (n := n) (d := d) (fun h => by omega))
    have hd : decide ((n.natAbs : Int) ≤ 2147483647) = false := by simp only [decide_eq_false_iff_not]; omega
    go_enter Try.func128, Try.ntmps128
    go_wp2_with fail
    go_quiet ((go_at_call 146; exact quiet_same (pr_abs _ _ (by omega) (by omega))))
    go_wp2_with fail
    go_ret
    exact ⟨ret_bool H.out.symm, bdn Hb0.out _⟩
  have hd3 : decide ((n.natAbs : Int) ≤ 2147483647) = true := by simp only [decide_eq_true_eq]; omega
  have hconv : IntKind.u64.wrap d = (d.natAbs : Int) := by rw [IntKind.wrap_u64]; omega
  have hc0 : (w.alloc (.cells #[.int .i64 n, .int .i64 d] 48)).cell? ⟨w.heap.size, 0, none⟩ = some (.int .i64 n) := hloc0.cell 0 rfl 0
  have hc1 : (w.alloc (.cells #[.int .i64 n, .int .i64 d] 48)).cell? ⟨w.heap.size, 1, none⟩ = some (.int .i64 d) := hloc0.cell 0 rfl 1
  have HV := Lib.hid (show (Nat.gcd n.natAbs d.natAbs = 1) ↔ vr n d = true by rw [vr_iff]; exact ⟨fun h => ⟨by omega, by omega, by omega, by omega, h⟩, fun h => h.2.2.2.2⟩)
  obtain ⟨G, hG⟩ : ∃ G, G = Nat.gcd n.natAbs d.natAbs := ⟨_, rfl⟩
  rw [← hG] at HV
  have HG := Lib.hid hG
  clear hG
  cases h5 : ((G : Int) == 1)
  · have H := Lib.hid (show vr n d = false by rw [Bool.eq_false_iff]; intro e; have := HV.out.2 e; simp at h5; omega)
    go_enter Try.func128, Try.ntmps128
    go_wp2_with fail
    generalize w.alloc (.cells #[.int .i64 n, .int .i64 d] 48) = w1 at *
    go_region_held3 (fun w' => w'.cell? ⟨w.heap.size, 0, none⟩ = some (.int .i64 n) ∧ w'.cell? ⟨w.heap.size, 1, none⟩ = some (.int .i64 d))
      (first | exact ⟨by assumption, by assumption⟩ | go_keep)
      (first
        | (go_at_call 146; refine (pr_abs _ _ (by omega) (by omega)).mono ?_; rintro e wa ⟨rfl, rfl⟩)
        | (go_at_call 147; refine (pr_gcd _ _ _ (by omega) (by omega)).mono ?_; rw [← HG.out]; rintro e wb ⟨rfl, hbb⟩; have k0 := keepb (show w1.drew.cell? ⟨w.heap.size, 0, none⟩ = some (.int .i64 n) from hc0) hbb; have k1 := keepb (show w1.drew.cell? ⟨w.heap.size, 1, none⟩ = some (.int .i64 d) from hc1) hbb))
    go_wp2_with fail
    go_ret
    exact ⟨ret_bool H.out.symm, bt Hb0.out (bt ((Below.refl _ _).drew) hbb)⟩
  · have H := Lib.hid (show vr n d = true from HV.out.1 (by simp at h5; omega))
    go_enter Try.func128, Try.ntmps128
    go_wp2_with fail
    generalize w.alloc (.cells #[.int .i64 n, .int .i64 d] 48) = w1 at *
    go_region_held3 (fun w' => w'.cell? ⟨w.heap.size, 0, none⟩ = some (.int .i64 n) ∧ w'.cell? ⟨w.heap.size, 1, none⟩ = some (.int .i64 d))
      (first | exact ⟨by assumption, by assumption⟩ | go_keep)
      (first
        | (go_at_call 146; refine (pr_abs _ _ (by omega) (by omega)).mono ?_; rintro e wa ⟨rfl, rfl⟩)
        | (go_at_call 147; refine (pr_gcd _ _ _ (by omega) (by omega)).mono ?_; rw [← HG.out]; rintro e wb ⟨rfl, hbb⟩; have k0 := keepb (show w1.drew.cell? ⟨w.heap.size, 0, none⟩ = some (.int .i64 n) from hc0) hbb; have k1 := keepb (show w1.drew.cell? ⟨w.heap.size, 1, none⟩ = some (.int .i64 d) from hc1) hbb))
    go_wp2_with fail
    go_ret
    exact ⟨ret_bool H.out.symm, bt Hb0.out (bt ((Below.refl _ _).drew) hbb)⟩
end Go.Proofs.Ytkgaipcgdldfdaa
