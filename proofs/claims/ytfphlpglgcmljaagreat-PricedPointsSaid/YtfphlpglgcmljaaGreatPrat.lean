/- Contracts of the program's ratios: abs, gcd, Valid. Contracts of the program's ratios: gcd, Valid, valid, Make. Contracts of the program's ratios: valid, Make, Add, Sub, Cmp, Neg. Contracts of the program's ratios: Add, Sub, Cmp, Neg. -/
import Derived.Test.YtfphlpglgcmljaaGreatRatP
import Derived.Test.YtfphlpglgcmljaaGreatRat
import Derived.Test.YtfphlpglgcmljaaGreatLim
import Derived.Deep.RegionHeld3
import Derived.Test.YtfphlpglgcmljaaGreatWid1
import Derived.Laws.EntriesVeiled
import Derived.Deep.DeepCutAuto
namespace Go.Proofs.YtfphlpglgcmljaaGreat
open Go.RowKit
set_option linter.unusedVariables false

set_option maxHeartbeats 400000 in
theorem pr_abs (n : Int) (w : World) (h1 : -9223372036854775808 ≤ n) (h2 : n ≤ 9223372036854775807) :
    Calls Tryz.prog 152 #[.int .i64 n] w fun e w' => e = .returned (.int .u64 n.natAbs) ∧ w = w' := by
  by_cases hn : n < 0
  · go_enter Tryz.func152, Tryz.ntmps152
    go_wp2
    go_ret
    exact ⟨ret_u64 (by simp only [IntKind.wrap_u64]; omega), rfl⟩
  · go_enter Tryz.func152, Tryz.ntmps152
    go_wp2
    go_ret
    exact ⟨ret_u64 (by omega), rfl⟩

set_option maxRecDepth 100000 in
set_option maxHeartbeats 1000000 in
theorem pr_step (pb : Nat) (m : Nat) : ∀ (x y : Nat) (w : World), y ≤ m → x < 18446744073709551616 → y < 18446744073709551616 → w.cell? ⟨pb, 0, none⟩ = some (.func (.func 177) #[] #[.pointer (some ⟨pb, 0, none⟩)]) →
    Calls Tryz.prog 177 #[.int .u64 x, .int .u64 y, .pointer (some ⟨pb, 0, none⟩)] w fun e w' => e = .returned (.int .u64 (Nat.gcd x y)) ∧ ∃ k, w' = w.drewN k := by
  induction m with
  | zero =>
    intro x y w hy hx1 hy1 hc
    obtain rfl : y = 0 := by omega
    go_enter Tryz.func177, Tryz.ntmps177
    go_wp2_with fail
    go_ret
    exact ⟨ret_u64 (by rw [Nat.gcd_zero_right]), 0, rfl⟩
  | succ m ih =>
    intro x y w hy hx1 hy1 hc
    by_cases h0 : y = 0
    · subst h0
      go_enter Tryz.func177, Tryz.ntmps177
      go_wp2_with fail
      go_ret
      exact ⟨ret_u64 (by rw [Nat.gcd_zero_right]), 0, rfl⟩
    · have b1 : ((y : Int) == 0) = false := by simp; omega
      have b2 : ¬ ((y : Int) = 0) := by omega
      have b3 := Lib.hid (show Nat.gcd y (x % y) = Nat.gcd x y by rw [Nat.gcd_comm x y, Nat.gcd_rec y x, Nat.gcd_comm])
      have b4 := Nat.mod_lt x (show 0 < y by omega)
      have IH := Lib.hid ih
      clear ih
      go_enter Tryz.func177, Tryz.ntmps177
      go_wp2_with fail
      have hcast : ((x : Int) % (y : Int)) = ((x % y : Nat) : Int) := (Int.natCast_emod x y).symm
      go_quiet ((go_at_call 177; exact Calls.quiet_of (IH.out y (x % y) _ (by omega) hy1 (by omega) hc)))
      go_wp2_with fail
      go_ret
      exact ⟨ret_u64 (by rw [b3.out]), _, rfl⟩
end Go.Proofs.YtfphlpglgcmljaaGreat
namespace Go.Proofs.YtfphlpglgcmljaaGreat
open Go.RowKit
set_option linter.unusedVariables false

set_option maxHeartbeats 1000000 in
theorem pr_gcd (x y : Nat) (w : World) (h1 : x < 18446744073709551616) (h2 : y < 18446744073709551616) :
    Calls Tryz.prog 153 #[.int .u64 x, .int .u64 y] w fun e w' => e = .returned (.int .u64 (Nat.gcd x y)) ∧ Below w.heap.size w w' := by
  go_enter Tryz.func153, Tryz.ntmps153
  have hb : Below w.heap.size w (w.alloc (.cells #[.func (.func 177) #[] #[.pointer (some ⟨w.heap.size, 0, none⟩)]] 155)) := (Below.refl _ _).alloc (Nat.le_refl _) _
  have hc : (w.alloc (.cells #[.func (.func 177) #[] #[.pointer (some ⟨w.heap.size, 0, none⟩)]] 155)).cell? ⟨w.heap.size, 0, none⟩ = some (.func (.func 177) #[] #[.pointer (some ⟨w.heap.size, 0, none⟩)]) := cell_of_row _ w.heap.size 0 _ _ _ (heap_alloc_new w _)
  go_wp2_with fail
  refine (pr_step _ y x y _ (Nat.le_refl _) h1 h2 hc).mono ?_
  rintro e w' ⟨rfl, k, rfl⟩
  go_wp2_with fail
  go_ret
  exact ⟨rfl, bdn hb _⟩

set_option maxRecDepth 100000 in
set_option maxHeartbeats 4000000 in
theorem pr_valid (n d : Int) (w : World) (hw1 : -9223372036854775808 ≤ n) (hw2 : n ≤ 9223372036854775807) :
    Calls Tryz.prog 99 #[.agg #[.int .i64 n, .int .i64 d]] w fun e w' => e = .returned (.bool (vr n d)) ∧ Below w.heap.size w w' := by
  have hloc0 := Loc.one w (.cells #[.int .i64 n, .int .i64 d] 56) none
  have Hb0 := Lib.hid (below_grownBy hloc0.grown)
  by_cases h1 : 0 < d
  rotate_left
  · have H := Lib.hid (vr_no (n := n) (d := d) (fun h => by omega))
    have hd : decide (0 < d) = false := by simpa using h1
    go_enter Tryz.func99, Tryz.ntmps99
    go_wp2_with fail
    go_quiet (fail)
    go_wp2_with fail
    go_ret
    exact ⟨ret_bool H.out.symm, bdn Hb0.out _⟩
  have hd1 : decide (0 < d) = true := by simpa using h1
  by_cases h2 : d ≤ 2147483647
  rotate_left
  · have H := Lib.hid (vr_no (n := n) (d := d) (fun h => by omega))
    have hd : decide (d ≤ 2147483647) = false := by simpa using h2
    go_enter Tryz.func99, Tryz.ntmps99
    go_wp2_with fail
    go_quiet (fail)
    go_wp2_with fail
    go_ret
    exact ⟨ret_bool H.out.symm, bdn Hb0.out _⟩
  have hd2 : decide (d ≤ 2147483647) = true := by simpa using h2
  by_cases h3 : n.natAbs ≤ 2147483647
  rotate_left
  · have H := Lib.hid (vr_no (n := n) (d := d) (fun h => by omega))
    have hd : decide ((n.natAbs : Int) ≤ 2147483647) = false := by simp only [decide_eq_false_iff_not]; omega
    go_enter Tryz.func99, Tryz.ntmps99
    go_wp2_with fail
    go_quiet ((go_at_call 152; exact quiet_same (pr_abs _ _ (by omega) (by omega))))
    go_wp2_with fail
    go_ret
    exact ⟨ret_bool H.out.symm, bdn Hb0.out _⟩
  have hd3 : decide ((n.natAbs : Int) ≤ 2147483647) = true := by simp only [decide_eq_true_eq]; omega
  have hconv : IntKind.u64.wrap d = (d.natAbs : Int) := by rw [IntKind.wrap_u64]; omega
  have hc0 : (w.alloc (.cells #[.int .i64 n, .int .i64 d] 56)).cell? ⟨w.heap.size, 0, none⟩ = some (.int .i64 n) := hloc0.cell 0 rfl 0
  have hc1 : (w.alloc (.cells #[.int .i64 n, .int .i64 d] 56)).cell? ⟨w.heap.size, 1, none⟩ = some (.int .i64 d) := hloc0.cell 0 rfl 1
  have HV := Lib.hid (show (Nat.gcd n.natAbs d.natAbs = 1) ↔ vr n d = true by rw [vr_iff]; exact ⟨fun h => ⟨by omega, by omega, by omega, by omega, h⟩, fun h => h.2.2.2.2⟩)
  obtain ⟨G, hG⟩ : ∃ G, G = Nat.gcd n.natAbs d.natAbs := ⟨_, rfl⟩
  rw [← hG] at HV
  have HG := Lib.hid hG
  clear hG
  cases h5 : ((G : Int) == 1)
  · have H := Lib.hid (show vr n d = false by rw [Bool.eq_false_iff]; intro e; have := HV.out.2 e; simp at h5; omega)
    go_enter Tryz.func99, Tryz.ntmps99
    go_wp2_with fail
    generalize w.alloc (.cells #[.int .i64 n, .int .i64 d] 56) = w1 at *
    go_region_held3 (fun w' => w'.cell? ⟨w.heap.size, 0, none⟩ = some (.int .i64 n) ∧ w'.cell? ⟨w.heap.size, 1, none⟩ = some (.int .i64 d))
      (first | exact ⟨by assumption, by assumption⟩ | go_keep)
      (first
        | (go_at_call 152; refine (pr_abs _ _ (by omega) (by omega)).mono ?_; rintro e wa ⟨rfl, rfl⟩)
        | (go_at_call 153; refine (pr_gcd _ _ _ (by omega) (by omega)).mono ?_; rw [← HG.out]; rintro e wb ⟨rfl, hbb⟩; have k0 := keepb (show w1.drew.cell? ⟨w.heap.size, 0, none⟩ = some (.int .i64 n) from hc0) hbb; have k1 := keepb (show w1.drew.cell? ⟨w.heap.size, 1, none⟩ = some (.int .i64 d) from hc1) hbb))
    go_wp2_with fail
    go_ret
    exact ⟨ret_bool H.out.symm, bt Hb0.out (bt ((Below.refl _ _).drew) hbb)⟩
  · have H := Lib.hid (show vr n d = true from HV.out.1 (by simp at h5; omega))
    go_enter Tryz.func99, Tryz.ntmps99
    go_wp2_with fail
    generalize w.alloc (.cells #[.int .i64 n, .int .i64 d] 56) = w1 at *
    go_region_held3 (fun w' => w'.cell? ⟨w.heap.size, 0, none⟩ = some (.int .i64 n) ∧ w'.cell? ⟨w.heap.size, 1, none⟩ = some (.int .i64 d))
      (first | exact ⟨by assumption, by assumption⟩ | go_keep)
      (first
        | (go_at_call 152; refine (pr_abs _ _ (by omega) (by omega)).mono ?_; rintro e wa ⟨rfl, rfl⟩)
        | (go_at_call 153; refine (pr_gcd _ _ _ (by omega) (by omega)).mono ?_; rw [← HG.out]; rintro e wb ⟨rfl, hbb⟩; have k0 := keepb (show w1.drew.cell? ⟨w.heap.size, 0, none⟩ = some (.int .i64 n) from hc0) hbb; have k1 := keepb (show w1.drew.cell? ⟨w.heap.size, 1, none⟩ = some (.int .i64 d) from hc1) hbb))
    go_wp2_with fail
    go_ret
    exact ⟨ret_bool H.out.symm, bt Hb0.out (bt ((Below.refl _ _).drew) hbb)⟩
end Go.Proofs.YtfphlpglgcmljaaGreat
namespace Go.Proofs.YtfphlpglgcmljaaGreat
open Go.RowKit
set_option linter.unusedVariables false

/-- A number of the machine. -/
def I64 (n : Int) : Prop := -9223372036854775808 ≤ n ∧ n ≤ 9223372036854775807
set_option maxHeartbeats 1000000 in
theorem pr_valid2 (a b c d : Int) (w : World) (ha : I64 a) (hc : I64 c) :
    Calls Tryz.prog 155 #[.agg #[.int .i64 a, .int .i64 b], .agg #[.int .i64 c, .int .i64 d]] w fun e w' => e = .returned (.bool (vr a b && vr c d)) ∧ Below w.heap.size w w' := by
  have hloc0 := Loc.two w (.cells #[.int .i64 a, .int .i64 b] 56) (.cells #[.int .i64 c, .int .i64 d] 56) none
  go_enter Tryz.func155, Tryz.ntmps155
  go_wp2_with fail
  refine (pr_valid a b _ ha.1 ha.2).mono ?_
  cases h1 : vr a b
  · rintro e w1 ⟨rfl, hb1⟩
    have hloc1 := hloc0.next (grownBy_below hb1 none) (fun _ h => by cases h)
    go_wp2_with fail
    go_ret
    exact ⟨ret_bool (by simp [h1]), below_grownBy hloc1.grown⟩
  · rintro e w1 ⟨rfl, hb1⟩
    have hloc1 := hloc0.next (grownBy_below hb1 none) (fun _ h => by cases h)
    have k0 : w1.cell? ⟨w.heap.size + 1, 0, none⟩ = some (.int .i64 c) := hloc1.cell 1 rfl 0
    have k1 : w1.cell? ⟨w.heap.size + 1, 1, none⟩ = some (.int .i64 d) := hloc1.cell 1 rfl 1
    clear hb1 hloc0
    go_wp2_with fail
    refine (pr_valid c d _ hc.1 hc.2).mono ?_
    rintro e w2 ⟨rfl, hb2⟩
    have hloc2 := hloc1.next (grownBy_below hb2 none) (fun _ h => by cases h)
    go_wp2_with fail
    go_ret
    exact ⟨ret_bool (by simp [h1]), below_grownBy hloc2.grown⟩
set_option maxRecDepth 100000 in
set_option maxHeartbeats 4000000 in
theorem pr_make (n d : Int) (w : World) (h1 : -9223372036854775808 ≤ n) (h2 : n ≤ 9223372036854775807) (h3 : -9223372036854775808 ≤ d) (h4 : d ≤ 9223372036854775807) :
    Calls Tryz.prog 154 #[.int .i64 n, .int .i64 d] w fun e w' => RE (mkR n d) e ∧ Below w.heap.size w w' := by
  have hloc0 := Loc.one w (.cells #[.int .i64 0, .int .i64 0] 56) none
  by_cases hd : d = 0
  · subst hd
    have H := Lib.hid (mkR_zero n)
    go_enter Tryz.func154, Tryz.ntmps154
    go_wp2_with fail
    refine bodyPost_ret (v := .tuple #[.agg #[.int .i64 0, .int .i64 0], .int .i64 2]) (by simp [results, Tryz.results154, go_sem]) rfl ⟨RE.of H.out, ?_⟩
    (repeat' (first | exact Below.refl _ _ | refine Below.setCell ?_ ?_ _ | refine Below.alloc ?_ ?_ _ | refine Below.drew ?_ | refine bdn ?_ _)) <;> (first | (simp; done) | (simp; omega))
  have hg : 0 < Nat.gcd n.natAbs d.natAbs := Nat.gcd_pos_of_pos_right _ (by omega)
  have hgb : Nat.gcd n.natAbs d.natAbs < 18446744073709551616 := by
    have := Nat.le_of_dvd (by omega) (Nat.gcd_dvd_right n.natAbs d.natAbs); omega
  have hq1 : n.natAbs / Nat.gcd n.natAbs d.natAbs ≤ 9223372036854775808 := Nat.le_trans (Nat.div_le_self _ _) (by omega)
  have hq2 : d.natAbs / Nat.gcd n.natAbs d.natAbs ≤ 9223372036854775808 := Nat.le_trans (Nat.div_le_self _ _) (by omega)
  have hd' : (d == 0) = false := by simpa using hd
  have H7 := Lib.hid (fun h => mkR_range (n := n) hd h)
  have H0 := Lib.hid (fun h => mkR_ok (n := n) hd h)
  have e1 : ((n.natAbs : Nat) : Int) / ((Nat.gcd n.natAbs d.natAbs : Nat) : Int) = ((n.natAbs / Nat.gcd n.natAbs d.natAbs : Nat) : Int) := (Int.natCast_ediv _ _).symm
  have e2 : ((d.natAbs : Nat) : Int) / ((Nat.gcd n.natAbs d.natAbs : Nat) : Int) = ((d.natAbs / Nat.gcd n.natAbs d.natAbs : Nat) : Int) := (Int.natCast_ediv _ _).symm
  generalize hN : n.natAbs / Nat.gcd n.natAbs d.natAbs = p at *
  generalize hD : d.natAbs / Nat.gcd n.natAbs d.natAbs = q at *
  generalize hG : Nat.gcd n.natAbs d.natAbs = g at *
  have HG := Lib.hid hG
  have g1 : ¬ ((g : Int) = 0) := by omega
  clear hG hN hD
  by_cases hr1 : 2147483647 < p
  · have H := Lib.hid (H7.out (.inl hr1))
    have b1 : decide ((2147483647 : Int) < (p : Int)) = true := by simp; omega
    go_enter Tryz.func154, Tryz.ntmps154
    go_wp2_with (go_at_call 152; (refine (pr_abs _ _ (by omega) (by omega)).mono ?_); rintro e w1 ⟨rfl, rfl⟩)
    refine (pr_gcd _ _ _ (by omega) (by omega)).mono ?_
    rw [HG.out]
    rintro e w1 ⟨rfl, hb1⟩
    have hloc1 := hloc0.next (grownBy_below hb1 none) (fun _ h => by cases h)
    have r0 : w1.cell? ⟨w.heap.size, 0, none⟩ = some (.int .i64 0) := hloc1.cell 0 rfl 0
    have r1 : w1.cell? ⟨w.heap.size, 1, none⟩ = some (.int .i64 0) := hloc1.cell 0 rfl 1
    have r2 : w1.frozen? ⟨w.heap.size, 0, none⟩ = false := hloc1.free 0 rfl 0
    have r3 : w1.frozen? ⟨w.heap.size, 1, none⟩ = false := hloc1.free 0 rfl 1
    have hs1 : w.heap.size + 1 ≤ w1.heap.size := hloc1.size
    have Hb := Lib.hid (below_grownBy hloc1.grown)
    clear hb1 hloc0 hloc1
    go_wp2_with fail
    go_quiet (fail)
    have u0 : (w1.drewN nq).cell? ⟨w.heap.size, 0, none⟩ = some (.int .i64 0) := r0
    have u1 : (w1.drewN nq).cell? ⟨w.heap.size, 1, none⟩ = some (.int .i64 0) := r1
    have u2 : (w1.drewN nq).frozen? ⟨w.heap.size, 0, none⟩ = false := r2
    have u3 : (w1.drewN nq).frozen? ⟨w.heap.size, 1, none⟩ = false := r3
    have hsW : w.heap.size + 1 ≤ (w1.drewN nq).heap.size := hs1
    have hlW : w.heap.size < (w1.drewN nq).heap.size := hs1
    have HbW := Lib.hid (bdn Hb.out nq)
    clear r0 r1 r2 r3 hs1 Hb
    generalize w1.drewN nq = W at *
    go_wp2_with fail
    refine bodyPost_ret (v := .tuple #[.agg #[.int .i64 (0), .int .i64 0], .int .i64 7]) (by simp [results, Tryz.results154, go_sem, u0, u1]) rfl ⟨RE.of H.out, ?_⟩
    (repeat' (first | exact HbW.out | refine Below.setCell ?_ ?_ _ | refine Below.alloc ?_ ?_ _ | refine Below.drew ?_ | refine bdn ?_ _)) <;> (first | (simp; done) | (simp; omega) | (show w.heap.size ≤ W.heap.size; omega))
  have b1 : decide ((2147483647 : Int) < (p : Int)) = false := by simp; omega
  by_cases hr2 : 2147483647 < q
  · have H := Lib.hid (H7.out (.inr hr2))
    have b2 : decide ((2147483647 : Int) < (q : Int)) = true := by simp; omega
    go_enter Tryz.func154, Tryz.ntmps154
    go_wp2_with (go_at_call 152; (refine (pr_abs _ _ (by omega) (by omega)).mono ?_); rintro e w1 ⟨rfl, rfl⟩)
    refine (pr_gcd _ _ _ (by omega) (by omega)).mono ?_
    rw [HG.out]
    rintro e w1 ⟨rfl, hb1⟩
    have hloc1 := hloc0.next (grownBy_below hb1 none) (fun _ h => by cases h)
    have r0 : w1.cell? ⟨w.heap.size, 0, none⟩ = some (.int .i64 0) := hloc1.cell 0 rfl 0
    have r1 : w1.cell? ⟨w.heap.size, 1, none⟩ = some (.int .i64 0) := hloc1.cell 0 rfl 1
    have r2 : w1.frozen? ⟨w.heap.size, 0, none⟩ = false := hloc1.free 0 rfl 0
    have r3 : w1.frozen? ⟨w.heap.size, 1, none⟩ = false := hloc1.free 0 rfl 1
    have hs1 : w.heap.size + 1 ≤ w1.heap.size := hloc1.size
    have Hb := Lib.hid (below_grownBy hloc1.grown)
    clear hb1 hloc0 hloc1
    go_wp2_with fail
    go_quiet (fail)
    have u0 : (w1.drewN nq).cell? ⟨w.heap.size, 0, none⟩ = some (.int .i64 0) := r0
    have u1 : (w1.drewN nq).cell? ⟨w.heap.size, 1, none⟩ = some (.int .i64 0) := r1
    have u2 : (w1.drewN nq).frozen? ⟨w.heap.size, 0, none⟩ = false := r2
    have u3 : (w1.drewN nq).frozen? ⟨w.heap.size, 1, none⟩ = false := r3
    have hsW : w.heap.size + 1 ≤ (w1.drewN nq).heap.size := hs1
    have hlW : w.heap.size < (w1.drewN nq).heap.size := hs1
    have HbW := Lib.hid (bdn Hb.out nq)
    clear r0 r1 r2 r3 hs1 Hb
    generalize w1.drewN nq = W at *
    go_wp2_with fail
    refine bodyPost_ret (v := .tuple #[.agg #[.int .i64 (0), .int .i64 0], .int .i64 7]) (by simp [results, Tryz.results154, go_sem, u0, u1]) rfl ⟨RE.of H.out, ?_⟩
    (repeat' (first | exact HbW.out | refine Below.setCell ?_ ?_ _ | refine Below.alloc ?_ ?_ _ | refine Below.drew ?_ | refine bdn ?_ _)) <;> (first | (simp; done) | (simp; omega) | (show w.heap.size ≤ W.heap.size; omega))
  have b2 : decide ((2147483647 : Int) < (q : Int)) = false := by simp; omega
  have H := Lib.hid (H0.out (by omega))
  by_cases n0 : n < 0 <;> by_cases d0 : d < 0
  · have H' := Lib.hid (show mkR n d = (((p : Int), (q : Int)), 0) by rw [H.out, if_pos (by omega)])
    have n1 : decide (n < 0) = true := by simpa using n0
    have d1 : decide (d < 0) = true := by simpa using d0
    go_enter Tryz.func154, Tryz.ntmps154
    go_wp2_with (go_at_call 152; (refine (pr_abs _ _ (by omega) (by omega)).mono ?_); rintro e w1 ⟨rfl, rfl⟩)
    refine (pr_gcd _ _ _ (by omega) (by omega)).mono ?_
    rw [HG.out]
    rintro e w1 ⟨rfl, hb1⟩
    have hloc1 := hloc0.next (grownBy_below hb1 none) (fun _ h => by cases h)
    have r0 : w1.cell? ⟨w.heap.size, 0, none⟩ = some (.int .i64 0) := hloc1.cell 0 rfl 0
    have r1 : w1.cell? ⟨w.heap.size, 1, none⟩ = some (.int .i64 0) := hloc1.cell 0 rfl 1
    have r2 : w1.frozen? ⟨w.heap.size, 0, none⟩ = false := hloc1.free 0 rfl 0
    have r3 : w1.frozen? ⟨w.heap.size, 1, none⟩ = false := hloc1.free 0 rfl 1
    have hs1 : w.heap.size + 1 ≤ w1.heap.size := hloc1.size
    have Hb := Lib.hid (below_grownBy hloc1.grown)
    clear hb1 hloc0 hloc1
    go_wp2_with fail
    go_quiet (fail)
    have u0 : (w1.drewN nq).cell? ⟨w.heap.size, 0, none⟩ = some (.int .i64 0) := r0
    have u1 : (w1.drewN nq).cell? ⟨w.heap.size, 1, none⟩ = some (.int .i64 0) := r1
    have u2 : (w1.drewN nq).frozen? ⟨w.heap.size, 0, none⟩ = false := r2
    have u3 : (w1.drewN nq).frozen? ⟨w.heap.size, 1, none⟩ = false := r3
    have hsW : w.heap.size + 1 ≤ (w1.drewN nq).heap.size := hs1
    have hlW : w.heap.size < (w1.drewN nq).heap.size := hs1
    have HbW := Lib.hid (bdn Hb.out nq)
    clear r0 r1 r2 r3 hs1 Hb
    generalize w1.drewN nq = W at *
    have hbox := fun o => (Below.refl W.heap.size W).alloc (Nat.le_refl _) o
    have t0 : (W.alloc (.cells #[.int .i64 ((p : Int)), .int .i64 (q : Int)] 56)).cell? ⟨w.heap.size, 0, none⟩ = some (.int .i64 0) := keepb u0 (hbox _)
    have t1 : (W.alloc (.cells #[.int .i64 ((p : Int)), .int .i64 (q : Int)] 56)).cell? ⟨w.heap.size, 1, none⟩ = some (.int .i64 0) := keepb u1 (hbox _)
    have t2 : (W.alloc (.cells #[.int .i64 ((p : Int)), .int .i64 (q : Int)] 56)).frozen? ⟨w.heap.size, 0, none⟩ = false := (((hbox _).frozen (p := ⟨w.heap.size, 0, none⟩) hlW).trans u2)
    have t3 : (W.alloc (.cells #[.int .i64 ((p : Int)), .int .i64 (q : Int)] 56)).frozen? ⟨w.heap.size, 1, none⟩ = false := (((hbox _).frozen (p := ⟨w.heap.size, 1, none⟩) hlW).trans u3)
    clear hbox
    go_upto_region 11 with fail
    have v0 := cell_of_row _ W.heap.size 0 _ _ _ (heap_alloc_new W (.cells #[.int .i64 ((p : Int)), .int .i64 (q : Int)] 56))
    have v1 := cell_of_row _ W.heap.size 1 _ _ _ (heap_alloc_new W (.cells #[.int .i64 ((p : Int)), .int .i64 (q : Int)] 56))
    have HbV := Lib.hid (HbW.out.alloc (show w.heap.size ≤ W.heap.size by omega) (.cells #[.int .i64 ((p : Int)), .int .i64 (q : Int)] 56))
    generalize W.alloc (.cells #[.int .i64 ((p : Int)), .int .i64 (q : Int)] 56) = V at *
    clear u0 u1 u2 u3 HbW
    go_wp2_with fail
    refine bodyPost_ret (v := .tuple #[.agg #[.int .i64 ((p : Int)), .int .i64 (q : Int)], .int .i64 0]) (by simp [results, Tryz.results154, go_sem, t0, t1]) rfl ⟨RE.of H'.out, ?_⟩
    (repeat' (first | exact HbV.out | refine Below.setCell ?_ ?_ _ | refine Below.alloc ?_ ?_ _ | refine Below.drew ?_ | refine bdn ?_ _)) <;> (first | (simp; done) | (simp; omega) | (show w.heap.size ≤ W.heap.size; omega))
  · have H' := Lib.hid (show mkR n d = ((-(p : Int), (q : Int)), 0) by rw [H.out, if_neg (by omega)])
    have n1 : decide (n < 0) = true := by simpa using n0
    have d1 : decide (d < 0) = false := by simpa using d0
    go_enter Tryz.func154, Tryz.ntmps154
    go_wp2_with (go_at_call 152; (refine (pr_abs _ _ (by omega) (by omega)).mono ?_); rintro e w1 ⟨rfl, rfl⟩)
    refine (pr_gcd _ _ _ (by omega) (by omega)).mono ?_
    rw [HG.out]
    rintro e w1 ⟨rfl, hb1⟩
    have hloc1 := hloc0.next (grownBy_below hb1 none) (fun _ h => by cases h)
    have r0 : w1.cell? ⟨w.heap.size, 0, none⟩ = some (.int .i64 0) := hloc1.cell 0 rfl 0
    have r1 : w1.cell? ⟨w.heap.size, 1, none⟩ = some (.int .i64 0) := hloc1.cell 0 rfl 1
    have r2 : w1.frozen? ⟨w.heap.size, 0, none⟩ = false := hloc1.free 0 rfl 0
    have r3 : w1.frozen? ⟨w.heap.size, 1, none⟩ = false := hloc1.free 0 rfl 1
    have hs1 : w.heap.size + 1 ≤ w1.heap.size := hloc1.size
    have Hb := Lib.hid (below_grownBy hloc1.grown)
    clear hb1 hloc0 hloc1
    go_wp2_with fail
    go_quiet (fail)
    have u0 : (w1.drewN nq).cell? ⟨w.heap.size, 0, none⟩ = some (.int .i64 0) := r0
    have u1 : (w1.drewN nq).cell? ⟨w.heap.size, 1, none⟩ = some (.int .i64 0) := r1
    have u2 : (w1.drewN nq).frozen? ⟨w.heap.size, 0, none⟩ = false := r2
    have u3 : (w1.drewN nq).frozen? ⟨w.heap.size, 1, none⟩ = false := r3
    have hsW : w.heap.size + 1 ≤ (w1.drewN nq).heap.size := hs1
    have hlW : w.heap.size < (w1.drewN nq).heap.size := hs1
    have HbW := Lib.hid (bdn Hb.out nq)
    clear r0 r1 r2 r3 hs1 Hb
    generalize w1.drewN nq = W at *
    have hbox := fun o => (Below.refl W.heap.size W).alloc (Nat.le_refl _) o
    have t0 : (W.alloc (.cells #[.int .i64 (-(p : Int)), .int .i64 (q : Int)] 56)).cell? ⟨w.heap.size, 0, none⟩ = some (.int .i64 0) := keepb u0 (hbox _)
    have t1 : (W.alloc (.cells #[.int .i64 (-(p : Int)), .int .i64 (q : Int)] 56)).cell? ⟨w.heap.size, 1, none⟩ = some (.int .i64 0) := keepb u1 (hbox _)
    have t2 : (W.alloc (.cells #[.int .i64 (-(p : Int)), .int .i64 (q : Int)] 56)).frozen? ⟨w.heap.size, 0, none⟩ = false := (((hbox _).frozen (p := ⟨w.heap.size, 0, none⟩) hlW).trans u2)
    have t3 : (W.alloc (.cells #[.int .i64 (-(p : Int)), .int .i64 (q : Int)] 56)).frozen? ⟨w.heap.size, 1, none⟩ = false := (((hbox _).frozen (p := ⟨w.heap.size, 1, none⟩) hlW).trans u3)
    clear hbox
    go_upto_region 11 with fail
    have v0 := cell_of_row _ W.heap.size 0 _ _ _ (heap_alloc_new W (.cells #[.int .i64 (-(p : Int)), .int .i64 (q : Int)] 56))
    have v1 := cell_of_row _ W.heap.size 1 _ _ _ (heap_alloc_new W (.cells #[.int .i64 (-(p : Int)), .int .i64 (q : Int)] 56))
    have HbV := Lib.hid (HbW.out.alloc (show w.heap.size ≤ W.heap.size by omega) (.cells #[.int .i64 (-(p : Int)), .int .i64 (q : Int)] 56))
    generalize W.alloc (.cells #[.int .i64 (-(p : Int)), .int .i64 (q : Int)] 56) = V at *
    clear u0 u1 u2 u3 HbW
    go_wp2_with fail
    refine bodyPost_ret (v := .tuple #[.agg #[.int .i64 (-(p : Int)), .int .i64 (q : Int)], .int .i64 0]) (by simp [results, Tryz.results154, go_sem, t0, t1]) rfl ⟨RE.of H'.out, ?_⟩
    (repeat' (first | exact HbV.out | refine Below.setCell ?_ ?_ _ | refine Below.alloc ?_ ?_ _ | refine Below.drew ?_ | refine bdn ?_ _)) <;> (first | (simp; done) | (simp; omega) | (show w.heap.size ≤ W.heap.size; omega))
  · have H' := Lib.hid (show mkR n d = ((-(p : Int), (q : Int)), 0) by rw [H.out, if_neg (by omega)])
    have n1 : decide (n < 0) = false := by simpa using n0
    have d1 : decide (d < 0) = true := by simpa using d0
    go_enter Tryz.func154, Tryz.ntmps154
    go_wp2_with (go_at_call 152; (refine (pr_abs _ _ (by omega) (by omega)).mono ?_); rintro e w1 ⟨rfl, rfl⟩)
    refine (pr_gcd _ _ _ (by omega) (by omega)).mono ?_
    rw [HG.out]
    rintro e w1 ⟨rfl, hb1⟩
    have hloc1 := hloc0.next (grownBy_below hb1 none) (fun _ h => by cases h)
    have r0 : w1.cell? ⟨w.heap.size, 0, none⟩ = some (.int .i64 0) := hloc1.cell 0 rfl 0
    have r1 : w1.cell? ⟨w.heap.size, 1, none⟩ = some (.int .i64 0) := hloc1.cell 0 rfl 1
    have r2 : w1.frozen? ⟨w.heap.size, 0, none⟩ = false := hloc1.free 0 rfl 0
    have r3 : w1.frozen? ⟨w.heap.size, 1, none⟩ = false := hloc1.free 0 rfl 1
    have hs1 : w.heap.size + 1 ≤ w1.heap.size := hloc1.size
    have Hb := Lib.hid (below_grownBy hloc1.grown)
    clear hb1 hloc0 hloc1
    go_wp2_with fail
    go_quiet (fail)
    have u0 : (w1.drewN nq).cell? ⟨w.heap.size, 0, none⟩ = some (.int .i64 0) := r0
    have u1 : (w1.drewN nq).cell? ⟨w.heap.size, 1, none⟩ = some (.int .i64 0) := r1
    have u2 : (w1.drewN nq).frozen? ⟨w.heap.size, 0, none⟩ = false := r2
    have u3 : (w1.drewN nq).frozen? ⟨w.heap.size, 1, none⟩ = false := r3
    have hsW : w.heap.size + 1 ≤ (w1.drewN nq).heap.size := hs1
    have hlW : w.heap.size < (w1.drewN nq).heap.size := hs1
    have HbW := Lib.hid (bdn Hb.out nq)
    clear r0 r1 r2 r3 hs1 Hb
    generalize w1.drewN nq = W at *
    have hbox := fun o => (Below.refl W.heap.size W).alloc (Nat.le_refl _) o
    have t0 : (W.alloc (.cells #[.int .i64 (-(p : Int)), .int .i64 (q : Int)] 56)).cell? ⟨w.heap.size, 0, none⟩ = some (.int .i64 0) := keepb u0 (hbox _)
    have t1 : (W.alloc (.cells #[.int .i64 (-(p : Int)), .int .i64 (q : Int)] 56)).cell? ⟨w.heap.size, 1, none⟩ = some (.int .i64 0) := keepb u1 (hbox _)
    have t2 : (W.alloc (.cells #[.int .i64 (-(p : Int)), .int .i64 (q : Int)] 56)).frozen? ⟨w.heap.size, 0, none⟩ = false := (((hbox _).frozen (p := ⟨w.heap.size, 0, none⟩) hlW).trans u2)
    have t3 : (W.alloc (.cells #[.int .i64 (-(p : Int)), .int .i64 (q : Int)] 56)).frozen? ⟨w.heap.size, 1, none⟩ = false := (((hbox _).frozen (p := ⟨w.heap.size, 1, none⟩) hlW).trans u3)
    clear hbox
    go_upto_region 11 with fail
    have v0 := cell_of_row _ W.heap.size 0 _ _ _ (heap_alloc_new W (.cells #[.int .i64 (-(p : Int)), .int .i64 (q : Int)] 56))
    have v1 := cell_of_row _ W.heap.size 1 _ _ _ (heap_alloc_new W (.cells #[.int .i64 (-(p : Int)), .int .i64 (q : Int)] 56))
    have HbV := Lib.hid (HbW.out.alloc (show w.heap.size ≤ W.heap.size by omega) (.cells #[.int .i64 (-(p : Int)), .int .i64 (q : Int)] 56))
    generalize W.alloc (.cells #[.int .i64 (-(p : Int)), .int .i64 (q : Int)] 56) = V at *
    clear u0 u1 u2 u3 HbW
    go_wp2_with fail
    refine bodyPost_ret (v := .tuple #[.agg #[.int .i64 (-(p : Int)), .int .i64 (q : Int)], .int .i64 0]) (by simp [results, Tryz.results154, go_sem, t0, t1]) rfl ⟨RE.of H'.out, ?_⟩
    (repeat' (first | exact HbV.out | refine Below.setCell ?_ ?_ _ | refine Below.alloc ?_ ?_ _ | refine Below.drew ?_ | refine bdn ?_ _)) <;> (first | (simp; done) | (simp; omega) | (show w.heap.size ≤ W.heap.size; omega))
  · have H' := Lib.hid (show mkR n d = (((p : Int), (q : Int)), 0) by rw [H.out, if_pos (by omega)])
    have n1 : decide (n < 0) = false := by simpa using n0
    have d1 : decide (d < 0) = false := by simpa using d0
    go_enter Tryz.func154, Tryz.ntmps154
    go_wp2_with (go_at_call 152; (refine (pr_abs _ _ (by omega) (by omega)).mono ?_); rintro e w1 ⟨rfl, rfl⟩)
    refine (pr_gcd _ _ _ (by omega) (by omega)).mono ?_
    rw [HG.out]
    rintro e w1 ⟨rfl, hb1⟩
    have hloc1 := hloc0.next (grownBy_below hb1 none) (fun _ h => by cases h)
    have r0 : w1.cell? ⟨w.heap.size, 0, none⟩ = some (.int .i64 0) := hloc1.cell 0 rfl 0
    have r1 : w1.cell? ⟨w.heap.size, 1, none⟩ = some (.int .i64 0) := hloc1.cell 0 rfl 1
    have r2 : w1.frozen? ⟨w.heap.size, 0, none⟩ = false := hloc1.free 0 rfl 0
    have r3 : w1.frozen? ⟨w.heap.size, 1, none⟩ = false := hloc1.free 0 rfl 1
    have hs1 : w.heap.size + 1 ≤ w1.heap.size := hloc1.size
    have Hb := Lib.hid (below_grownBy hloc1.grown)
    clear hb1 hloc0 hloc1
    go_wp2_with fail
    go_quiet (fail)
    have u0 : (w1.drewN nq).cell? ⟨w.heap.size, 0, none⟩ = some (.int .i64 0) := r0
    have u1 : (w1.drewN nq).cell? ⟨w.heap.size, 1, none⟩ = some (.int .i64 0) := r1
    have u2 : (w1.drewN nq).frozen? ⟨w.heap.size, 0, none⟩ = false := r2
    have u3 : (w1.drewN nq).frozen? ⟨w.heap.size, 1, none⟩ = false := r3
    have hsW : w.heap.size + 1 ≤ (w1.drewN nq).heap.size := hs1
    have hlW : w.heap.size < (w1.drewN nq).heap.size := hs1
    have HbW := Lib.hid (bdn Hb.out nq)
    clear r0 r1 r2 r3 hs1 Hb
    generalize w1.drewN nq = W at *
    have hbox := fun o => (Below.refl W.heap.size W).alloc (Nat.le_refl _) o
    have t0 : (W.alloc (.cells #[.int .i64 ((p : Int)), .int .i64 (q : Int)] 56)).cell? ⟨w.heap.size, 0, none⟩ = some (.int .i64 0) := keepb u0 (hbox _)
    have t1 : (W.alloc (.cells #[.int .i64 ((p : Int)), .int .i64 (q : Int)] 56)).cell? ⟨w.heap.size, 1, none⟩ = some (.int .i64 0) := keepb u1 (hbox _)
    have t2 : (W.alloc (.cells #[.int .i64 ((p : Int)), .int .i64 (q : Int)] 56)).frozen? ⟨w.heap.size, 0, none⟩ = false := (((hbox _).frozen (p := ⟨w.heap.size, 0, none⟩) hlW).trans u2)
    have t3 : (W.alloc (.cells #[.int .i64 ((p : Int)), .int .i64 (q : Int)] 56)).frozen? ⟨w.heap.size, 1, none⟩ = false := (((hbox _).frozen (p := ⟨w.heap.size, 1, none⟩) hlW).trans u3)
    clear hbox
    go_upto_region 11 with fail
    have v0 := cell_of_row _ W.heap.size 0 _ _ _ (heap_alloc_new W (.cells #[.int .i64 ((p : Int)), .int .i64 (q : Int)] 56))
    have v1 := cell_of_row _ W.heap.size 1 _ _ _ (heap_alloc_new W (.cells #[.int .i64 ((p : Int)), .int .i64 (q : Int)] 56))
    have HbV := Lib.hid (HbW.out.alloc (show w.heap.size ≤ W.heap.size by omega) (.cells #[.int .i64 ((p : Int)), .int .i64 (q : Int)] 56))
    generalize W.alloc (.cells #[.int .i64 ((p : Int)), .int .i64 (q : Int)] 56) = V at *
    clear u0 u1 u2 u3 HbW
    go_wp2_with fail
    refine bodyPost_ret (v := .tuple #[.agg #[.int .i64 ((p : Int)), .int .i64 (q : Int)], .int .i64 0]) (by simp [results, Tryz.results154, go_sem, t0, t1]) rfl ⟨RE.of H'.out, ?_⟩
    (repeat' (first | exact HbV.out | refine Below.setCell ?_ ?_ _ | refine Below.alloc ?_ ?_ _ | refine Below.drew ?_ | refine bdn ?_ _)) <;> (first | (simp; done) | (simp; omega) | (show w.heap.size ≤ W.heap.size; omega))
end Go.Proofs.YtfphlpglgcmljaaGreat
namespace Go.Proofs.YtfphlpglgcmljaaGreat
open Go.RowKit
set_option linter.unusedVariables false

/-- The difference, as the program reckons it. -/
def sbR (a b c d : Int) : (Int × Int) × Int := if vr a b = true ∧ vr c d = true then mkR (a * d - c * b) (b * d) else ((0, 0), 2)
theorem sbR_no {a b c d : Int} (h : (vr a b && vr c d) = false) : sbR a b c d = ((0, 0), 2) := by unfold sbR; rw [if_neg (by intro e; rw [e.1, e.2] at h; cases h)]
theorem sbR_yes {a b c d : Int} (h : (vr a b && vr c d) = true) : sbR a b c d = mkR (a * d - c * b) (b * d) := by unfold sbR; rw [if_pos (by simpa using h)]
theorem adR_no {a b c d : Int} (h : (vr a b && vr c d) = false) : addR a b c d = ((0, 0), 2) := addR_no (by intro e; rw [e.1, e.2] at h; cases h)
theorem adR_yes {a b c d : Int} (h : (vr a b && vr c d) = true) : addR a b c d = mkR (a * d + c * b) (b * d) := addR_yes (by simpa using h)
/-- Compared. -/
def cmR (a b c d : Int) : Int × Int := if vr a b = true ∧ vr c d = true then (if a * d - c * b < 0 then -1 else if 0 < a * d - c * b then 1 else 0, 0) else (0, 2)
theorem cmR_no {a b c d : Int} (h : (vr a b && vr c d) = false) : cmR a b c d = (0, 2) := by unfold cmR; rw [if_neg (by intro e; rw [e.1, e.2] at h; cases h)]
theorem cmR_yes {a b c d : Int} (h : (vr a b && vr c d) = true) : cmR a b c d = (if a * d - c * b < 0 then -1 else if 0 < a * d - c * b then 1 else 0, 0) := by unfold cmR; rw [if_pos (by simpa using h)]
theorem vr_bd {a b : Int} (h : vr a b = true) : 1 ≤ b ∧ b ≤ 2147483647 ∧ -2147483647 ≤ a ∧ a ≤ 2147483647 := by
  obtain ⟨h1, h2, h3, h4, _⟩ := (vr_iff a b).1 h; exact ⟨h1, h2, h3, h4⟩
set_option maxRecDepth 100000 in
set_option maxHeartbeats 2000000 in
theorem pr_add (a b c d : Int) (w : World) (ha : I64 a) (hc : I64 c) :
    Calls Tryz.prog 104 #[.agg #[.int .i64 a, .int .i64 b], .agg #[.int .i64 c, .int .i64 d]] w fun e w' => RE (addR a b c d) e ∧ Below w.heap.size w w' := by
  have hloc0 := Loc.three w (.cells #[.int .i64 a, .int .i64 b] 56) (.cells #[.int .i64 c, .int .i64 d] 56) (.cells #[.int .i64 0, .int .i64 0] 56) none
  go_enter Tryz.func104, Tryz.ntmps104
  go_wp2_with fail
  refine (pr_valid2 a b c d _ ha hc).mono ?_
  cases h1 : (vr a b && vr c d)
  · have H := Lib.hid (adR_no h1)
    rintro e w1 ⟨rfl, hb1⟩
    have hloc1 := hloc0.next (grownBy_below hb1 none) (fun _ h => by cases h)
    have r0 : w1.cell? ⟨w.heap.size + 1 + 1, 0, none⟩ = some (.int .i64 0) := hloc1.cell 2 rfl 0
    have r1 : w1.cell? ⟨w.heap.size + 1 + 1, 1, none⟩ = some (.int .i64 0) := hloc1.cell 2 rfl 1
    have r2 : w1.frozen? ⟨w.heap.size + 1 + 1, 0, none⟩ = false := hloc1.free 2 rfl 0
    have r3 : w1.frozen? ⟨w.heap.size + 1 + 1, 1, none⟩ = false := hloc1.free 2 rfl 1
    have Hb := Lib.hid (below_grownBy hloc1.grown)
    clear hb1 hloc0 hloc1 h1
    go_wp2_with fail
    refine bodyPost_ret (v := .tuple #[.agg #[.int .i64 0, .int .i64 0], .int .i64 2]) (by simp [results, Tryz.results104, go_sem, r0, r1]) rfl ⟨RE.of H.out, ?_⟩
    exact (Hb.out.setCell (by simp; omega) _).setCell (by simp; omega) _
  · have H := Lib.hid (adR_yes h1)
    have hv : vr a b = true ∧ vr c d = true := by simpa using h1
    obtain ⟨p1, p2, p3, p4⟩ := vr_bd hv.1
    obtain ⟨q1, q2, q3, q4⟩ := vr_bd hv.2
    obtain ⟨m1, m2⟩ := mul_bd (a := a) (b := d) p3 p4 (by omega) q2
    obtain ⟨m3, m4⟩ := mul_bd (a := c) (b := b) q3 q4 (by omega) p2
    obtain ⟨m5, m6⟩ := mul_bd (a := b) (b := d) (by omega) p2 (by omega) q2
    rintro e w2 ⟨rfl, hb2⟩
    have hloc2 := hloc0.next (grownBy_below hb2 none) (fun _ h => by cases h)
    have l0 : w2.cell? ⟨w.heap.size, 0, none⟩ = some (.int .i64 a) := hloc2.cell 0 rfl 0
    have l1 : w2.cell? ⟨w.heap.size, 1, none⟩ = some (.int .i64 b) := hloc2.cell 0 rfl 1
    have l2 : w2.cell? ⟨w.heap.size + 1, 0, none⟩ = some (.int .i64 c) := hloc2.cell 1 rfl 0
    have l3 : w2.cell? ⟨w.heap.size + 1, 1, none⟩ = some (.int .i64 d) := hloc2.cell 1 rfl 1
    clear hb2 hloc0 h1 hv
    go_wp2_with fail
    refine (pr_make _ _ _ (by omega) (by omega) (by omega) (by omega)).mono ?_
    generalize hR : mkR (a * d + c * b) (b * d) = R at *
    obtain ⟨⟨p, q⟩, x⟩ := R
    have HR := Lib.hid H.out
    rintro e w3 ⟨he, hb3⟩
    obtain rfl : e = .returned (.tuple #[.agg #[.int .i64 p, .int .i64 q], .int .i64 x]) := he
    have hloc3 := hloc2.next (grownBy_below hb3 none) (fun _ h => by cases h)
    have r0 : w3.cell? ⟨w.heap.size + 1 + 1, 0, none⟩ = some (.int .i64 0) := hloc3.cell 2 rfl 0
    have r1 : w3.cell? ⟨w.heap.size + 1 + 1, 1, none⟩ = some (.int .i64 0) := hloc3.cell 2 rfl 1
    have r2 : w3.frozen? ⟨w.heap.size + 1 + 1, 0, none⟩ = false := hloc3.free 2 rfl 0
    have r3 : w3.frozen? ⟨w.heap.size + 1 + 1, 1, none⟩ = false := hloc3.free 2 rfl 1
    have Hb := Lib.hid (below_grownBy hloc3.grown)
    clear hb3 hloc2 hloc3 l0 l1 l2 l3 hR
    go_wp2_with fail
    refine bodyPost_ret (v := .tuple #[.agg #[.int .i64 p, .int .i64 q], .int .i64 x]) (by simp [results, Tryz.results104, go_sem, r0, r1]) rfl ⟨RE.of HR.out, ?_⟩
    exact (Hb.out.setCell (by simp; omega) _).setCell (by simp; omega) _
set_option maxRecDepth 100000 in
set_option maxHeartbeats 2000000 in
theorem pr_sub (a b c d : Int) (w : World) (ha : I64 a) (hc : I64 c) :
    Calls Tryz.prog 102 #[.agg #[.int .i64 a, .int .i64 b], .agg #[.int .i64 c, .int .i64 d]] w fun e w' => RE (sbR a b c d) e ∧ Below w.heap.size w w' := by
  have hloc0 := Loc.three w (.cells #[.int .i64 a, .int .i64 b] 56) (.cells #[.int .i64 c, .int .i64 d] 56) (.cells #[.int .i64 0, .int .i64 0] 56) none
  go_enter Tryz.func102, Tryz.ntmps102
  go_wp2_with fail
  refine (pr_valid2 a b c d _ ha hc).mono ?_
  cases h1 : (vr a b && vr c d)
  · have H := Lib.hid (sbR_no h1)
    rintro e w1 ⟨rfl, hb1⟩
    have hloc1 := hloc0.next (grownBy_below hb1 none) (fun _ h => by cases h)
    have r0 : w1.cell? ⟨w.heap.size + 1 + 1, 0, none⟩ = some (.int .i64 0) := hloc1.cell 2 rfl 0
    have r1 : w1.cell? ⟨w.heap.size + 1 + 1, 1, none⟩ = some (.int .i64 0) := hloc1.cell 2 rfl 1
    have r2 : w1.frozen? ⟨w.heap.size + 1 + 1, 0, none⟩ = false := hloc1.free 2 rfl 0
    have r3 : w1.frozen? ⟨w.heap.size + 1 + 1, 1, none⟩ = false := hloc1.free 2 rfl 1
    have Hb := Lib.hid (below_grownBy hloc1.grown)
    clear hb1 hloc0 hloc1 h1
    go_wp2_with fail
    refine bodyPost_ret (v := .tuple #[.agg #[.int .i64 0, .int .i64 0], .int .i64 2]) (by simp [results, Tryz.results102, go_sem, r0, r1]) rfl ⟨RE.of H.out, ?_⟩
    exact (Hb.out.setCell (by simp; omega) _).setCell (by simp; omega) _
  · have H := Lib.hid (sbR_yes h1)
    have hv : vr a b = true ∧ vr c d = true := by simpa using h1
    obtain ⟨p1, p2, p3, p4⟩ := vr_bd hv.1
    obtain ⟨q1, q2, q3, q4⟩ := vr_bd hv.2
    obtain ⟨m1, m2⟩ := mul_bd (a := a) (b := d) p3 p4 (by omega) q2
    obtain ⟨m3, m4⟩ := mul_bd (a := c) (b := b) q3 q4 (by omega) p2
    obtain ⟨m5, m6⟩ := mul_bd (a := b) (b := d) (by omega) p2 (by omega) q2
    rintro e w2 ⟨rfl, hb2⟩
    have hloc2 := hloc0.next (grownBy_below hb2 none) (fun _ h => by cases h)
    have l0 : w2.cell? ⟨w.heap.size, 0, none⟩ = some (.int .i64 a) := hloc2.cell 0 rfl 0
    have l1 : w2.cell? ⟨w.heap.size, 1, none⟩ = some (.int .i64 b) := hloc2.cell 0 rfl 1
    have l2 : w2.cell? ⟨w.heap.size + 1, 0, none⟩ = some (.int .i64 c) := hloc2.cell 1 rfl 0
    have l3 : w2.cell? ⟨w.heap.size + 1, 1, none⟩ = some (.int .i64 d) := hloc2.cell 1 rfl 1
    clear hb2 hloc0 h1 hv
    go_wp2_with fail
    refine (pr_make _ _ _ (by omega) (by omega) (by omega) (by omega)).mono ?_
    generalize hR : mkR (a * d - c * b) (b * d) = R at *
    obtain ⟨⟨p, q⟩, x⟩ := R
    have HR := Lib.hid H.out
    rintro e w3 ⟨he, hb3⟩
    obtain rfl : e = .returned (.tuple #[.agg #[.int .i64 p, .int .i64 q], .int .i64 x]) := he
    have hloc3 := hloc2.next (grownBy_below hb3 none) (fun _ h => by cases h)
    have r0 : w3.cell? ⟨w.heap.size + 1 + 1, 0, none⟩ = some (.int .i64 0) := hloc3.cell 2 rfl 0
    have r1 : w3.cell? ⟨w.heap.size + 1 + 1, 1, none⟩ = some (.int .i64 0) := hloc3.cell 2 rfl 1
    have r2 : w3.frozen? ⟨w.heap.size + 1 + 1, 0, none⟩ = false := hloc3.free 2 rfl 0
    have r3 : w3.frozen? ⟨w.heap.size + 1 + 1, 1, none⟩ = false := hloc3.free 2 rfl 1
    have Hb := Lib.hid (below_grownBy hloc3.grown)
    clear hb3 hloc2 hloc3 l0 l1 l2 l3 hR
    go_wp2_with fail
    refine bodyPost_ret (v := .tuple #[.agg #[.int .i64 p, .int .i64 q], .int .i64 x]) (by simp [results, Tryz.results102, go_sem, r0, r1]) rfl ⟨RE.of HR.out, ?_⟩
    exact (Hb.out.setCell (by simp; omega) _).setCell (by simp; omega) _
/-- What a function that returns a number and an error returns. -/
def NE (r : Int × Int) (e : Ending) : Prop := e = .returned (.tuple #[.int .i64 r.1, .int .i64 r.2])
theorem NE.of {r : Int × Int} {b x : Int} (h : r = (b, x)) : NE r (.returned (.tuple #[.int .i64 b, .int .i64 x])) := by subst h; rfl
/-- The negative. -/
def ngR (a b : Int) : (Int × Int) × Int := if vr a b = true then ((-a, b), 0) else ((0, 0), 2)
end Go.Proofs.YtfphlpglgcmljaaGreat

