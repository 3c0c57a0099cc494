/- Part of the proof of priced_clears_proved: Rat. -/
import Derived.Test.YtfphlpglgcmljaaGreatXcWid1
namespace Go.Proofs.YtfphlpglgcmljaaGreat
open Go.RowKit
set_option linter.unusedVariables false
theorem ret_u64 {a b : Int} (h : a = b) : Ending.returned (.int .u64 a) = .returned (.int .u64 b) := by rw [h]
set_option maxHeartbeats 400000 in
theorem r1_size (n : Int) (w : World) (h1 : -9223372036854775808 ≤ n) (h2 : n ≤ 9223372036854775807) :
  Calls Tryz.prog 144 #[.int .i64 n] w fun e w' => e = .returned (.int .u64 n.natAbs) ∧ w = w' := by
 by_cases hn : n < 0
 ·go_enter Tryz.func144, Tryz.ntmps144
  go_wp2
  go_ret
  exact ⟨ret_u64 (by omega), rfl⟩
 ·go_enter Tryz.func144, Tryz.ntmps144
  go_wp2
  go_ret
  exact ⟨ret_u64 (by omega), rfl⟩
set_option maxHeartbeats 400000 in
theorem r1_divisor (x y : Nat) (w : World) (h1 : x < 18446744073709551616) (h2 : y < 18446744073709551616) :
  Calls Tryz.prog 143 #[.int .u64 x, .int .u64 y] w fun e w' => e = .returned (.int .u64 (Nat.gcd x y)) ∧ ∃ k, w' = w.drewN k := by
 go_enter Tryz.func143, Tryz.ntmps143
 go_wp2_with fail
 go_loopw [0, 1] (fun a b wr => ∃ p q : Nat, a = .int .u64 p ∧ b = .int .u64 q ∧ p < 18446744073709551616 ∧ q < 18446744073709551616 ∧ Nat.gcd p q = Nat.gcd x y ∧ ∃ k, wr = w.drewN k) (fun _ b _ => (intOf b).toNat)
 case atStart => exact ⟨x, y, rfl, rfl, h1, h2, rfl, 0, rfl⟩
 case round =>
  obtain ⟨p, q, rfl, rfl, hp, hq, hg, k, rfl⟩ := hrel
  have Hg := Lib.hid hg
  clear hg
  by_cases hq0 : q = 0
  ·subst hq0
   go_wp2_with fail
   go_ret
   exact ⟨ret_u64 (by rw [← Hg.out, Nat.gcd_zero_right]), k, rfl⟩
  ·have b1 : ((q : Int) != 0) = true := by simp; omega
   have b2 : ¬ ((q : Int) = 0) := by omega
   have b3 := Lib.hid (show Nat.gcd q (p % q) = Nat.gcd x y by rw [← Hg.out, Nat.gcd_comm p q, Nat.gcd_rec q p, Nat.gcd_comm])
   have b4 := Nat.mod_lt p (show 0 < q by omega)
   go_wp2_with fail
   go_quiet (fail)
   go_roundw
   case rel => exact ⟨_, _, _, _, _, _, _, _, ⟨q, p % q, rfl, by go_num, hq, by omega, b3.out, _, World.drewN_drewN _ _ _⟩, rfl⟩
   case measure => simp [intOf]; omega
theorem quiet_same {P : Program} {f : FuncId} {args : Array Value} {w : World} {n : Nat} {v : Value}
  (h : Calls P f args (w.drewN n) fun e w' => e = .returned v ∧ w.drewN n = w') : Calls P f args (w.drewN n) fun e w'' => e = .returned v ∧ ∃ m, w'' = w.drewN m :=
 h.mono fun _ _ ⟨he, hm⟩ => ⟨he, n, hm.symm⟩
theorem quiet_same2 {P : Program} {f : FuncId} {args : Array Value} {w : World} {a n : Nat} {v : Value}
  (h : Calls P f args (w.drewN (a + n)) fun e w' => e = .returned v ∧ w.drewN (a + n) = w') : Calls P f args (w.drewN (a + n)) fun e w'' => e = .returned v ∧ ∃ m, w'' = w.drewN (a + m) :=
 h.mono fun _ _ ⟨he, hm⟩ => ⟨he, n, hm.symm⟩
set_option maxHeartbeats 1000000 in
theorem r1_valid (n d : Int) (w : World) :
  Calls Tryz.prog 91 #[.agg #[.int .i64 n, .int .i64 d]] w fun e w' => e = .returned (.bool (vr n d)) ∧ Below w.heap.size w w' := by
 by_cases h1 : 1 ≤ d
 ·by_cases h2 : d ≤ 2147483647
  ·by_cases h3 : -2147483647 ≤ n
   ·by_cases h4 : n ≤ 2147483647
    ·cases h5 : decide (Nat.gcd n.natAbs d.natAbs = 1)
     ·have H := Lib.hid (vr_no (n := n) (d := d) (fun h => by simp at h5; exact h5 h.2.2.2.2))
      have hb : ((Nat.gcd n.natAbs d.natAbs : Int) == 1) = false := by simp at h5 ⊢; omega
      clear h5
      go_enter Tryz.func91, Tryz.ntmps91
      go_wp2_with fail
      go_quiet ((first | (go_at_call 144; exact quiet_same (r1_size _ _ (by omega) (by omega))) | (go_at_call 143; exact Calls.quiet_of (r1_divisor _ _ _ (by omega) (by omega)))))
      go_wp2_with fail
      go_ret
      exact ⟨ret_bool H.out.symm, bdn ((Below.refl _ _).alloc (Nat.le_refl _) _) _⟩
     ·have H := Lib.hid ((vr_iff n d).2 ⟨h1, h2, h3, h4, by simpa using h5⟩)
      have hb : ((Nat.gcd n.natAbs d.natAbs : Int) == 1) = true := by simp at h5 ⊢; omega
      clear h5
      go_enter Tryz.func91, Tryz.ntmps91
      go_wp2_with fail
      go_quiet ((first | (go_at_call 144; exact quiet_same (r1_size _ _ (by omega) (by omega))) | (go_at_call 143; exact Calls.quiet_of (r1_divisor _ _ _ (by omega) (by omega)))))
      go_wp2_with fail
      go_ret
      exact ⟨ret_bool H.out.symm, bdn ((Below.refl _ _).alloc (Nat.le_refl _) _) _⟩
    ·have H := Lib.hid (vr_no (n := n) (d := d) (fun h => by omega))
     have hd : decide (n ≤ 2147483647) = false := by simpa using h4
     go_enter Tryz.func91, Tryz.ntmps91
     go_wp2_with fail
     go_quiet (fail)
     go_wp2_with fail
     go_ret
     exact ⟨ret_bool H.out.symm, bdn ((Below.refl _ _).alloc (Nat.le_refl _) _) _⟩
   ·have H := Lib.hid (vr_no (n := n) (d := d) (fun h => by omega))
    have hd : decide (-2147483647 ≤ n) = false := by simpa using h3
    go_enter Tryz.func91, Tryz.ntmps91
    go_wp2_with fail
    go_quiet (fail)
    go_wp2_with fail
    go_ret
    exact ⟨ret_bool H.out.symm, bdn ((Below.refl _ _).alloc (Nat.le_refl _) _) _⟩
  ·have H := Lib.hid (vr_no (n := n) (d := d) (fun h => by omega))
   have hd : decide (d ≤ 2147483647) = false := by simpa using h2
   go_enter Tryz.func91, Tryz.ntmps91
   go_wp2_with fail
   go_quiet (fail)
   go_wp2_with fail
   go_ret
   exact ⟨ret_bool H.out.symm, bdn ((Below.refl _ _).alloc (Nat.le_refl _) _) _⟩
 ·have H := Lib.hid (vr_no (n := n) (d := d) (fun h => by omega))
  have hd : decide (1 ≤ d) = false := by simpa using h1
  go_enter Tryz.func91, Tryz.ntmps91
  go_wp2_with fail
  go_quiet (fail)
  go_wp2_with fail
  go_ret
  exact ⟨ret_bool H.out.symm, bdn ((Below.refl _ _).alloc (Nat.le_refl _) _) _⟩
def RE (r : (Int × Int) × Int) (e : Ending) : Prop := e = .returned (.tuple #[.agg #[.int .i64 r.1.1, .int .i64 r.1.2], .int .i64 r.2])
theorem RE.of {r : (Int × Int) × Int} {p q x : Int} (h : r = ((p, q), x)) : RE r (.returned (.tuple #[.agg #[.int .i64 p, .int .i64 q], .int .i64 x])) := by subst h; rfl
set_option linter.unusedVariables false
set_option maxHeartbeats 1000000 in
theorem r1_make (n d : Int) (w : World) (h1 : -9223372036854775808 ≤ n) (h2 : n ≤ 9223372036854775807) (h3 : -9223372036854775808 ≤ d) (h4 : d ≤ 9223372036854775807) :
  Calls Tryz.prog 142 #[.int .i64 n, .int .i64 d] w fun e w' => RE (mkR n d) e ∧ Below w.heap.size w w' := by
 by_cases hd : d = 0
 ·subst hd
  have H := Lib.hid (mkR_zero n)
  go_enter Tryz.func142, Tryz.ntmps142
  go_wp2_with fail
  refine bodyPost_ret (v := .tuple #[.agg #[.int .i64 0, .int .i64 0], .int .i64 2]) (by simp [results, Tryz.results142, go_sem]) rfl ⟨RE.of H.out, ?_⟩
  (repeat' (first | exact Below.refl _ _ | refine Below.setCell ?_ ?_ _ | refine Below.alloc ?_ ?_ _ | refine Below.drew ?_ | refine bdn ?_ _)) <;> (first | (simp; done) | (simp; omega))
 ·have hg : 0 < Nat.gcd n.natAbs d.natAbs := Nat.gcd_pos_of_pos_right _ (by omega)
  have hgb : Nat.gcd n.natAbs d.natAbs < 18446744073709551616 := by
   have := Nat.le_of_dvd (by omega) (Nat.gcd_dvd_right n.natAbs d.natAbs); omega
  have hq1 : n.natAbs / Nat.gcd n.natAbs d.natAbs ≤ 9223372036854775808 := Nat.le_trans (Nat.div_le_self _ _) (by omega)
  have hq2 : d.natAbs / Nat.gcd n.natAbs d.natAbs ≤ 9223372036854775808 := Nat.le_trans (Nat.div_le_self _ _) (by omega)
  have hd' : (d == 0) = false := by simpa using hd
  have H7 := Lib.hid (fun h => mkR_range (n := n) hd h)
  have H0 := Lib.hid (fun h => mkR_ok (n := n) hd h)
  have e1 : ((n.natAbs : Nat) : Int) / ((Nat.gcd n.natAbs d.natAbs : Nat) : Int) = ((n.natAbs / Nat.gcd n.natAbs d.natAbs : Nat) : Int) := (Int.natCast_ediv _ _).symm
  have e2 : ((d.natAbs : Nat) : Int) / ((Nat.gcd n.natAbs d.natAbs : Nat) : Int) = ((d.natAbs / Nat.gcd n.natAbs d.natAbs : Nat) : Int) := (Int.natCast_ediv _ _).symm
  generalize hN : n.natAbs / Nat.gcd n.natAbs d.natAbs = p at *
  generalize hD : d.natAbs / Nat.gcd n.natAbs d.natAbs = q at *
  generalize hG : Nat.gcd n.natAbs d.natAbs = g at *
  have HG := Lib.hid hG
  have g1 : ¬ ((g : Int) = 0) := by omega
  clear hG hN hD
  by_cases hr1 : 2147483647 < p
  ·have H := Lib.hid (H7.out (.inl hr1))
   have b1 : (2147483647 : Int) < (p : Int) := by omega
   go_enter Tryz.func142, Tryz.ntmps142
   go_wp2_with ((first | (go_at_call 144; (refine (r1_size _ _ (by omega) (by omega)).mono ?_); rintro e w1 ⟨rfl, rfl⟩) | (go_at_call 143; (refine (r1_divisor _ _ _ (by omega) (by omega)).mono ?_); rintro e w1 ⟨rfl, k, rfl⟩; rw [HG.out])))
   go_quiet ((go_at_call 144; exact quiet_same2 (r1_size _ _ (by omega) (by omega))))
   go_wp2_with fail
   refine bodyPost_ret (v := .tuple #[.agg #[.int .i64 0, .int .i64 0], .int .i64 7]) (by simp [results, Tryz.results142, go_sem]) rfl ⟨RE.of H.out, ?_⟩
   (repeat' (first | exact Below.refl _ _ | refine Below.setCell ?_ ?_ _ | refine Below.alloc ?_ ?_ _ | refine Below.drew ?_ | refine bdn ?_ _)) <;> (first | (simp; done) | (simp; omega))
  ·by_cases hr2 : 2147483647 < q
   ·have H := Lib.hid (H7.out (.inr hr2))
    have b1 : decide ((2147483647 : Int) < (p : Int)) = false := by simp; omega
    have b2 : (2147483647 : Int) < (q : Int) := by omega
    go_enter Tryz.func142, Tryz.ntmps142
    go_wp2_with ((first | (go_at_call 144; (refine (r1_size _ _ (by omega) (by omega)).mono ?_); rintro e w1 ⟨rfl, rfl⟩) | (go_at_call 143; (refine (r1_divisor _ _ _ (by omega) (by omega)).mono ?_); rintro e w1 ⟨rfl, k, rfl⟩; rw [HG.out])))
    go_quiet ((go_at_call 144; exact quiet_same2 (r1_size _ _ (by omega) (by omega))))
    go_wp2_with fail
    refine bodyPost_ret (v := .tuple #[.agg #[.int .i64 0, .int .i64 0], .int .i64 7]) (by simp [results, Tryz.results142, go_sem]) rfl ⟨RE.of H.out, ?_⟩
    (repeat' (first | exact Below.refl _ _ | refine Below.setCell ?_ ?_ _ | refine Below.alloc ?_ ?_ _ | refine Below.drew ?_ | refine bdn ?_ _)) <;> (first | (simp; done) | (simp; omega))
   ·have H := Lib.hid (H0.out (by omega))
    have b1 : decide ((2147483647 : Int) < (p : Int)) = false := by simp; omega
    have b2 : decide ((2147483647 : Int) < (q : Int)) = false := by simp; omega
    by_cases n0 : n < 0 <;> by_cases d0 : d < 0
    ·have H' := Lib.hid (show mkR n d = (((p : Int), (q : Int)), 0) by rw [H.out, if_pos (by omega)])
     have n1 : decide (n < 0) = true := by simpa using n0
     have d1 : decide (d < 0) = true := by simpa using d0
     go_enter Tryz.func142, Tryz.ntmps142
     go_wp2_with ((first | (go_at_call 144; (refine (r1_size _ _ (by omega) (by omega)).mono ?_); rintro e w1 ⟨rfl, rfl⟩) | (go_at_call 143; (refine (r1_divisor _ _ _ (by omega) (by omega)).mono ?_); rintro e w1 ⟨rfl, k, rfl⟩; rw [HG.out])))
     go_quiet ((go_at_call 144; exact quiet_same2 (r1_size _ _ (by omega) (by omega))))
     go_wp2_with fail
     refine bodyPost_ret (v := .tuple #[.agg #[.int .i64 (p : Int), .int .i64 (q : Int)], .int .i64 0]) (by simp [results, Tryz.results142, go_sem]) rfl ⟨RE.of H'.out, ?_⟩
     (repeat' (first | exact Below.refl _ _ | refine Below.setCell ?_ ?_ _ | refine Below.alloc ?_ ?_ _ | refine Below.drew ?_ | refine bdn ?_ _)) <;> (first | (simp; done) | (simp; omega))
    ·have H' := Lib.hid (show mkR n d = ((-(p : Int), (q : Int)), 0) by rw [H.out, if_neg (by omega)])
     have n1 : decide (n < 0) = true := by simpa using n0
     have d1 : decide (d < 0) = false := by simpa using d0
     go_enter Tryz.func142, Tryz.ntmps142
     go_wp2_with ((first | (go_at_call 144; (refine (r1_size _ _ (by omega) (by omega)).mono ?_); rintro e w1 ⟨rfl, rfl⟩) | (go_at_call 143; (refine (r1_divisor _ _ _ (by omega) (by omega)).mono ?_); rintro e w1 ⟨rfl, k, rfl⟩; rw [HG.out])))
     go_quiet ((go_at_call 144; exact quiet_same2 (r1_size _ _ (by omega) (by omega))))
     go_wp2_with fail
     refine bodyPost_ret (v := .tuple #[.agg #[.int .i64 (-(p : Int)), .int .i64 (q : Int)], .int .i64 0]) (by simp [results, Tryz.results142, go_sem]) rfl ⟨RE.of H'.out, ?_⟩
     (repeat' (first | exact Below.refl _ _ | refine Below.setCell ?_ ?_ _ | refine Below.alloc ?_ ?_ _ | refine Below.drew ?_ | refine bdn ?_ _)) <;> (first | (simp; done) | (simp; omega))
    ·have H' := Lib.hid (show mkR n d = ((-(p : Int), (q : Int)), 0) by rw [H.out, if_neg (by omega)])
     have n1 : decide (n < 0) = false := by simpa using n0
     have d1 : decide (d < 0) = true := by simpa using d0
     go_enter Tryz.func142, Tryz.ntmps142
     go_wp2_with ((first | (go_at_call 144; (refine (r1_size _ _ (by omega) (by omega)).mono ?_); rintro e w1 ⟨rfl, rfl⟩) | (go_at_call 143; (refine (r1_divisor _ _ _ (by omega) (by omega)).mono ?_); rintro e w1 ⟨rfl, k, rfl⟩; rw [HG.out])))
     go_quiet ((go_at_call 144; exact quiet_same2 (r1_size _ _ (by omega) (by omega))))
     go_wp2_with fail
     refine bodyPost_ret (v := .tuple #[.agg #[.int .i64 (-(p : Int)), .int .i64 (q : Int)], .int .i64 0]) (by simp [results, Tryz.results142, go_sem]) rfl ⟨RE.of H'.out, ?_⟩
     (repeat' (first | exact Below.refl _ _ | refine Below.setCell ?_ ?_ _ | refine Below.alloc ?_ ?_ _ | refine Below.drew ?_ | refine bdn ?_ _)) <;> (first | (simp; done) | (simp; omega))
    ·have H' := Lib.hid (show mkR n d = (((p : Int), (q : Int)), 0) by rw [H.out, if_pos (by omega)])
     have n1 : decide (n < 0) = false := by simpa using n0
     have d1 : decide (d < 0) = false := by simpa using d0
     go_enter Tryz.func142, Tryz.ntmps142
     go_wp2_with ((first | (go_at_call 144; (refine (r1_size _ _ (by omega) (by omega)).mono ?_); rintro e w1 ⟨rfl, rfl⟩) | (go_at_call 143; (refine (r1_divisor _ _ _ (by omega) (by omega)).mono ?_); rintro e w1 ⟨rfl, k, rfl⟩; rw [HG.out])))
     go_quiet ((go_at_call 144; exact quiet_same2 (r1_size _ _ (by omega) (by omega))))
     go_wp2_with fail
     refine bodyPost_ret (v := .tuple #[.agg #[.int .i64 (p : Int), .int .i64 (q : Int)], .int .i64 0]) (by simp [results, Tryz.results142, go_sem]) rfl ⟨RE.of H'.out, ?_⟩
     (repeat' (first | exact Below.refl _ _ | refine Below.setCell ?_ ?_ _ | refine Below.alloc ?_ ?_ _ | refine Below.drew ?_ | refine bdn ?_ _)) <;> (first | (simp; done) | (simp; omega))
theorem Loc.push {w wr : World} {row : Option Nat} {l : List Obj} (h : Loc w wr row l) (hs : wr.heap.size = w.heap.size + l.length) (o : Obj) : Loc w (wr.alloc o) row (l ++ [o]) :=
 ⟨grownBy_trans h.grown (World.grownBy_alloc _ _ _), fun i hi => by
  rw [List.length_append, List.length_singleton] at hi
  by_cases e : i < l.length
  ·rw [List.getElem?_append_left e, Below.heap_alloc _ _ _ (by omega)]; exact h.objs i e
  ·obtain rfl : i = l.length := by omega
   rw [List.getElem?_append_right (Nat.le_refl _), Nat.sub_self, ← hs]
   exact heap_alloc_new wr o, by rw [List.length_append, List.length_singleton, World.size_alloc]; omega⟩
theorem Loc.three (w : World) (a b c : Obj) (row : Option Nat) : Loc w (((w.alloc a).alloc b).alloc c) row [a, b, c] := (Loc.two w a b row).push (by simp) c
theorem r1_valid_yes (n d : Int) (w : World) (h : vr n d = true) :
  Calls Tryz.prog 91 #[.agg #[.int .i64 n, .int .i64 d]] w fun e w' => e = .returned (.bool true) ∧ Below w.heap.size w w' := by
 have := r1_valid n d w; rwa [h] at this
theorem r1_valid_no (n d : Int) (w : World) (h : vr n d = false) :
  Calls Tryz.prog 91 #[.agg #[.int .i64 n, .int .i64 d]] w fun e w' => e = .returned (.bool false) ∧ Below w.heap.size w w' := by
 have := r1_valid n d w; rwa [h] at this
set_option maxHeartbeats 1000000 in
theorem r1_add (a b c d : Int) (w : World) :
  Calls Tryz.prog 93 #[.agg #[.int .i64 a, .int .i64 b], .agg #[.int .i64 c, .int .i64 d]] w fun e w' => RE (addR a b c d) e ∧ Below w.heap.size w w' := by
 have hloc0 := Loc.three w (.cells #[.int .i64 a, .int .i64 b] 56) (.cells #[.int .i64 c, .int .i64 d] 56) (.cells #[.int .i64 0, .int .i64 0] 56) none
 cases h1 : vr a b
 ·have H := Lib.hid (addR_no (a := a) (b := b) (c := c) (d := d) (fun h => by rw [h1] at h; cases h.1))
  go_enter Tryz.func93, Tryz.ntmps93
  go_wp2_with fail
  refine (r1_valid_no _ _ _ h1).mono ?_
  rintro e w1 ⟨rfl, hb1⟩
  have hloc1 := hloc0.next (grownBy_below hb1 none) (fun _ h => by cases h)
  have r0 : w1.cell? ⟨w.heap.size + 1 + 1, 0, none⟩ = some (.int .i64 0) := hloc1.cell 2 rfl 0
  have r1 : w1.cell? ⟨w.heap.size + 1 + 1, 1, none⟩ = some (.int .i64 0) := hloc1.cell 2 rfl 1
  have r2 : w1.frozen? ⟨w.heap.size + 1 + 1, 0, none⟩ = false := hloc1.free 2 rfl 0
  have r3 : w1.frozen? ⟨w.heap.size + 1 + 1, 1, none⟩ = false := hloc1.free 2 rfl 1
  have Hb := Lib.hid (below_grownBy hloc1.grown)
  clear hb1 hloc0 hloc1 h1
  go_wp2_with fail
  refine bodyPost_ret (v := .tuple #[.agg #[.int .i64 0, .int .i64 0], .int .i64 2]) (by simp [results, Tryz.results93, go_sem, r0, r1]) rfl ⟨RE.of H.out, ?_⟩
  exact (Hb.out.setCell (by simp; omega) _).setCell (by simp; omega) _
 ·cases h2 : vr c d
  ·have H := Lib.hid (addR_no (a := a) (b := b) (c := c) (d := d) (fun h => by rw [h2] at h; cases h.2))
   go_enter Tryz.func93, Tryz.ntmps93
   go_wp2_with fail
   refine (r1_valid_yes _ _ _ h1).mono ?_
   rintro e w1 ⟨rfl, hb1⟩
   have hloc1 := hloc0.next (grownBy_below hb1 none) (fun _ h => by cases h)
   have k0 : w1.cell? ⟨w.heap.size + 1, 0, none⟩ = some (.int .i64 c) := hloc1.cell 1 rfl 0
   have k1 : w1.cell? ⟨w.heap.size + 1, 1, none⟩ = some (.int .i64 d) := hloc1.cell 1 rfl 1
   clear hb1 hloc0 h1
   go_wp2_with fail
   refine (r1_valid_no _ _ _ h2).mono ?_
   rintro e w2 ⟨rfl, hb2⟩
   have hloc2 := hloc1.next (grownBy_below hb2 none) (fun _ h => by cases h)
   have r0 : w2.cell? ⟨w.heap.size + 1 + 1, 0, none⟩ = some (.int .i64 0) := hloc2.cell 2 rfl 0
   have r1 : w2.cell? ⟨w.heap.size + 1 + 1, 1, none⟩ = some (.int .i64 0) := hloc2.cell 2 rfl 1
   have r2 : w2.frozen? ⟨w.heap.size + 1 + 1, 0, none⟩ = false := hloc2.free 2 rfl 0
   have r3 : w2.frozen? ⟨w.heap.size + 1 + 1, 1, none⟩ = false := hloc2.free 2 rfl 1
   have Hb := Lib.hid (below_grownBy hloc2.grown)
   clear hb2 hloc1 hloc2 h2 k0 k1
   go_wp2_with fail
   refine bodyPost_ret (v := .tuple #[.agg #[.int .i64 0, .int .i64 0], .int .i64 2]) (by simp [results, Tryz.results93, go_sem, r0, r1]) rfl ⟨RE.of H.out, ?_⟩
   exact (Hb.out.setCell (by simp; omega) _).setCell (by simp; omega) _
  ·have H := Lib.hid (addR_yes (a := a) (b := b) (c := c) (d := d) ⟨h1, h2⟩)
   obtain ⟨p1, p2, p3, p4, _⟩ := (vr_iff a b).1 h1
   obtain ⟨q1, q2, q3, q4, _⟩ := (vr_iff c d).1 h2
   obtain ⟨m1, m2⟩ := mul_bd (a := a) (b := d) p3 p4 (by omega) q2
   obtain ⟨m3, m4⟩ := mul_bd (a := c) (b := b) q3 q4 (by omega) p2
   obtain ⟨m5, m6⟩ := mul_bd (a := b) (b := d) (by omega) p2 (by omega) q2
   go_enter Tryz.func93, Tryz.ntmps93
   go_wp2_with fail
   refine (r1_valid_yes _ _ _ h1).mono ?_
   rintro e w1 ⟨rfl, hb1⟩
   have hloc1 := hloc0.next (grownBy_below hb1 none) (fun _ h => by cases h)
   have k0 : w1.cell? ⟨w.heap.size + 1, 0, none⟩ = some (.int .i64 c) := hloc1.cell 1 rfl 0
   have k1 : w1.cell? ⟨w.heap.size + 1, 1, none⟩ = some (.int .i64 d) := hloc1.cell 1 rfl 1
   clear hb1 hloc0 h1
   go_wp2_with fail
   refine (r1_valid_yes _ _ _ h2).mono ?_
   rintro e w2 ⟨rfl, hb2⟩
   have hloc2 := hloc1.next (grownBy_below hb2 none) (fun _ h => by cases h)
   have l0 : w2.cell? ⟨w.heap.size, 0, none⟩ = some (.int .i64 a) := hloc2.cell 0 rfl 0
   have l1 : w2.cell? ⟨w.heap.size, 1, none⟩ = some (.int .i64 b) := hloc2.cell 0 rfl 1
   have l2 : w2.cell? ⟨w.heap.size + 1, 0, none⟩ = some (.int .i64 c) := hloc2.cell 1 rfl 0
   have l3 : w2.cell? ⟨w.heap.size + 1, 1, none⟩ = some (.int .i64 d) := hloc2.cell 1 rfl 1
   clear hb2 hloc1 h2 k0 k1
   go_wp2_with fail
   refine (r1_make _ _ _ (by omega) (by omega) (by omega) (by omega)).mono ?_
   generalize hR : mkR (a * d + c * b) (b * d) = R at *
   obtain ⟨⟨p, q⟩, x⟩ := R
   have HR := Lib.hid H.out
   rintro e w3 ⟨he, hb3⟩
   obtain rfl : e = .returned (.tuple #[.agg #[.int .i64 p, .int .i64 q], .int .i64 x]) := he
   have hloc3 := hloc2.next (grownBy_below hb3 none) (fun _ h => by cases h)
   have r0 : w3.cell? ⟨w.heap.size + 1 + 1, 0, none⟩ = some (.int .i64 0) := hloc3.cell 2 rfl 0
   have r1 : w3.cell? ⟨w.heap.size + 1 + 1, 1, none⟩ = some (.int .i64 0) := hloc3.cell 2 rfl 1
   have r2 : w3.frozen? ⟨w.heap.size + 1 + 1, 0, none⟩ = false := hloc3.free 2 rfl 0
   have r3 : w3.frozen? ⟨w.heap.size + 1 + 1, 1, none⟩ = false := hloc3.free 2 rfl 1
   have Hb := Lib.hid (below_grownBy hloc3.grown)
   clear hb3 hloc2 hloc3 l0 l1 l2 l3 hR
   go_wp2_with fail
   refine bodyPost_ret (v := .tuple #[.agg #[.int .i64 p, .int .i64 q], .int .i64 x]) (by simp [results, Tryz.results93, go_sem, r0, r1]) rfl ⟨RE.of HR.out, ?_⟩
   exact (Hb.out.setCell (by simp; omega) _).setCell (by simp; omega) _
set_option maxHeartbeats 1000000 in
theorem r1_sub (a b c d : Int) (w : World) :
  Calls Tryz.prog 86 #[.agg #[.int .i64 a, .int .i64 b], .agg #[.int .i64 c, .int .i64 d]] w fun e w' => RE (subR a b c d) e ∧ Below w.heap.size w w' := by
 have hloc0 := Loc.three w (.cells #[.int .i64 a, .int .i64 b] 56) (.cells #[.int .i64 (wrap64 (-c)), .int .i64 d] 56) (.cells #[.int .i64 0, .int .i64 0] 56) none
 go_enter Tryz.func86, Tryz.ntmps86
 go_wp2_with fail
 refine (r1_add _ _ _ _ _).mono ?_
 generalize hR : addR a b (wrap64 (-c)) d = R at *
 obtain ⟨⟨p, q⟩, x⟩ := R
 have HR := Lib.hid (show subR a b c d = ((p, q), x) from hR)
 rintro e w3 ⟨he, hb3⟩
 obtain rfl : e = .returned (.tuple #[.agg #[.int .i64 p, .int .i64 q], .int .i64 x]) := he
 have hloc3 := hloc0.next (grownBy_below hb3 none) (fun _ h => by cases h)
 have r0 : w3.cell? ⟨w.heap.size + 1 + 1, 0, none⟩ = some (.int .i64 0) := hloc3.cell 2 rfl 0
 have r1 : w3.cell? ⟨w.heap.size + 1 + 1, 1, none⟩ = some (.int .i64 0) := hloc3.cell 2 rfl 1
 have r2 : w3.frozen? ⟨w.heap.size + 1 + 1, 0, none⟩ = false := hloc3.free 2 rfl 0
 have r3 : w3.frozen? ⟨w.heap.size + 1 + 1, 1, none⟩ = false := hloc3.free 2 rfl 1
 have Hb := Lib.hid (below_grownBy hloc3.grown)
 clear hb3 hloc0 hloc3 hR
 go_wp2_with fail
 refine bodyPost_ret (v := .tuple #[.agg #[.int .i64 p, .int .i64 q], .int .i64 x]) (by simp [results, Tryz.results86, go_sem, r0, r1]) rfl ⟨RE.of HR.out, ?_⟩
 exact (Hb.out.setCell (by simp; omega) _).setCell (by simp; omega) _
theorem meetR_no {n d l : Int} (h : ¬ (vr n d = true ∧ vld l = true)) : meetR n d l = (false, 2) := by unfold meetR; rw [if_neg h]
theorem meetR_nl {n d l : Int} (h : vr n d = true ∧ vld l = true) (hl : l = 1099511627776) : meetR n d l = (true, 0) := by unfold meetR; rw [if_pos h, if_pos hl]
theorem meetR_strict {n d l : Int} (h : vr n d = true ∧ vld l = true) (hl : ¬ l = 1099511627776) (h2 : l % 2 = 0) : meetR n d l = (decide (n < l / 2 * d), 0) := by unfold meetR; rw [if_pos h, if_neg hl, if_pos h2]
theorem meetR_weak {n d l : Int} (h : vr n d = true ∧ vld l = true) (hl : ¬ l = 1099511627776) (h2 : ¬ l % 2 = 0) : meetR n d l = (decide (n ≤ l / 2 * d), 0) := by unfold meetR; rw [if_pos h, if_neg hl, if_neg h2]
def BEm (r : Bool × Int) (e : Ending) : Prop := e = .returned (.tuple #[.bool r.1, .int .i64 r.2])
theorem BEm.of {r : Bool × Int} {b : Bool} {x : Int} (h : r = (b, x)) : BEm r (.returned (.tuple #[.bool b, .int .i64 x])) := by subst h; rfl
set_option maxHeartbeats 1000000 in
theorem r2_meets (n d l : Int) (w : World) :
  Calls Tryz.prog 88 #[.agg #[.int .i64 n, .int .i64 d], .int .i64 l] w fun e w' => BEm (meetR n d l) e ∧ Below w.heap.size w w' := by
 have hloc0 := Loc.one w (.cells #[.int .i64 n, .int .i64 d] 56) none
 cases h1 : vr n d
 ·have H := Lib.hid (meetR_no (n := n) (d := d) (l := l) (fun h => by rw [h1] at h; cases h.1))
  go_enter Tryz.func88, Tryz.ntmps88
  go_wp2_with fail
  refine (r1_valid_no _ _ _ h1).mono ?_
  rintro e w1 ⟨rfl, hb1⟩
  have hloc1 := hloc0.next (grownBy_below hb1 none) (fun _ h => by cases h)
  clear h1
  go_wp2_with fail
  go_ret2
  exact ⟨BEm.of H.out, below_grownBy hloc1.grown⟩
 ·cases h2 : vld l
  ·have H := Lib.hid (meetR_no (n := n) (d := d) (l := l) (fun h => by rw [h2] at h; cases h.2))
   have Hv := Lib.hid (show Calls Tryz.prog 125 #[.int .i64 l] = Calls Tryz.prog 125 #[.int .i64 l] from rfl)
   go_enter Tryz.func88, Tryz.ntmps88
   go_wp2_with fail
   refine (r1_valid_yes _ _ _ h1).mono ?_
   rintro e w1 ⟨rfl, hb1⟩
   have hloc1 := hloc0.next (grownBy_below hb1 none) (fun _ h => by cases h)
   clear h1
   go_wp2_with fail
   refine (ref_valid _ _).mono ?_
   rintro e w2 ⟨rfl, rfl⟩
   go_wp2_with fail
   go_ret2
   exact ⟨BEm.of H.out, below_grownBy hloc1.grown⟩
  ·have hr := (vr_iff n d).1 h1
   have hv := (vld_iff l).1 h2
   have hsc : spE l = if l = 1099511627776 then 4 else 0 := by unfold spE; rw [h2]; simp
   by_cases hl : l = 1099511627776
   ·have H := Lib.hid (meetR_nl ⟨h1, h2⟩ hl)
    have hE := Lib.hid (show spE l = 4 by rw [hsc, if_pos hl])
    clear hsc hl hr hv
    go_enter Tryz.func88, Tryz.ntmps88
    go_wp2_with fail
    refine (r1_valid_yes _ _ _ h1).mono ?_
    rintro e w1 ⟨rfl, hb1⟩
    have hloc1 := hloc0.next (grownBy_below hb1 none) (fun _ h => by cases h)
    clear h1
    go_wp2_with ((first | (go_at_call 125; (refine (ref_valid _ _).mono ?_); rw [h2]; rintro e w2 ⟨rfl, rfl⟩) | (go_at_call 141; (refine (ref_split _ _).mono ?_); rw [hE.out]; rintro e w3 ⟨rfl, rfl⟩)))
    go_ret2
    exact ⟨BEm.of H.out, below_grownBy hloc1.grown⟩
   ·have hE := Lib.hid (show spE l = 0 by rw [hsc, if_neg hl])
    have hC := Lib.hid (show spC l = l / 2 by unfold spC; rw [hE.out]; simp)
    have c1 : -1073741824 ≤ l / 2 := by omega
    have c2 : l / 2 ≤ 1073741824 := by omega
    obtain ⟨m1, m2⟩ := mul_bd (a := l / 2) (b := d) (by omega) (by omega) (by omega) (by omega)
    by_cases hp : l % 2 = 0
    ·have H := Lib.hid (meetR_strict ⟨h1, h2⟩ hl hp)
     have hS := Lib.hid (show spS l = true by unfold spS; rw [hE.out]; simp [hp])
     clear hsc hl hr hv hp
     have k0 : (w.alloc (.cells #[.int .i64 n, .int .i64 d] 56)).heap.size = w.heap.size + 1 := by simp
     go_enter Tryz.func88, Tryz.ntmps88
     go_wp2_with fail
     refine (r1_valid_yes _ _ _ h1).mono ?_
     rintro e w1 ⟨rfl, hb1⟩
     have hloc1 := hloc0.next (grownBy_below hb1 none) (fun _ h => by cases h)
     have l0 : w1.cell? ⟨w.heap.size, 0, none⟩ = some (.int .i64 n) := hloc1.cell 0 rfl 0
     have l1 : w1.cell? ⟨w.heap.size, 1, none⟩ = some (.int .i64 d) := hloc1.cell 0 rfl 1
     clear h1
     generalize l / 2 = c at *
     go_wp2_with ((first | (go_at_call 125; (refine (ref_valid _ _).mono ?_); rw [h2]; rintro e w2 ⟨rfl, rfl⟩) | (go_at_call 141; (refine (ref_split _ _).mono ?_); rw [hE.out, hC.out, hS.out]; rintro e w3 ⟨rfl, rfl⟩)))
     go_ret2
     exact ⟨BEm.of H.out, below_grownBy hloc1.grown⟩
    ·have H := Lib.hid (meetR_weak ⟨h1, h2⟩ hl hp)
     have hS := Lib.hid (show spS l = false by unfold spS; rw [hE.out]; simp [hp])
     clear hsc hl hr hv hp
     go_enter Tryz.func88, Tryz.ntmps88
     go_wp2_with fail
     refine (r1_valid_yes _ _ _ h1).mono ?_
     rintro e w1 ⟨rfl, hb1⟩
     have hloc1 := hloc0.next (grownBy_below hb1 none) (fun _ h => by cases h)
     have l0 : w1.cell? ⟨w.heap.size, 0, none⟩ = some (.int .i64 n) := hloc1.cell 0 rfl 0
     have l1 : w1.cell? ⟨w.heap.size, 1, none⟩ = some (.int .i64 d) := hloc1.cell 0 rfl 1
     clear h1
     generalize l / 2 = c at *
     go_wp2_with ((first | (go_at_call 125; (refine (ref_valid _ _).mono ?_); rw [h2]; rintro e w2 ⟨rfl, rfl⟩) | (go_at_call 141; (refine (ref_split _ _).mono ?_); rw [hE.out, hC.out, hS.out]; rintro e w3 ⟨rfl, rfl⟩)))
     go_ret2
     exact ⟨BEm.of H.out, below_grownBy hloc1.grown⟩
end Go.Proofs.YtfphlpglgcmljaaGreat
