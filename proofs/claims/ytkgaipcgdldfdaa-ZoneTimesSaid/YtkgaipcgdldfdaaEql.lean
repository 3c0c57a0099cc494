/- The program's Same; the kit's SameRatios, where the lists are equal. -/
import Derived.Test.YtkgaipcgdldfdaaSame
import Derived.Test.YtkgaipcgdldfdaaQ
import Derived.Laws.StructEq
import Derived.BigQuiet
namespace Go.Proofs.Ytkgaipcgdldfdaa
open Go.RowKit
set_option linter.unusedVariables false

set_option maxHeartbeats 1000000 in
theorem prog_equal (v v2 : Value) (xs ys : List Int) (w : World) (hv : RL w.heap.size w v xs) (hv2 : RL w.heap.size w v2 ys) :
    Calls Try.prog 115 #[v, v2] w fun e w' => e = .returned (.bool (decide (xs = ys))) ∧ Below w.heap.size w w' := by
  obtain ⟨ao, cap, rfl, hle, h0⟩ := hv.open
  obtain ⟨ao2, cap2, rfl, hle2, h02⟩ := hv2.open
  have H0 := Lib.hid h0
  have H02 := Lib.hid h02
  clear hv hv2 h0 h02
  by_cases hl : xs.length = ys.length
  · have hl' : ((xs.length : Int) != (ys.length : Int)) = false := by simp; omega
    have Hl := Lib.hid hl
    clear hl
    go_enter Try.func115, Try.ntmps115
    go_wp2_with fail
    go_loopw [5, 13] (fun i5 i wr => ∃ q : Nat, q ≤ xs.length ∧ i = .int .i64 q ∧ EqTo xs ys q ∧ Below w.heap.size w wr) (fun _ i _ => xs.length - (intOf i).toNat)
    case atStart => exact ⟨0, by omega, rfl, fun _ h => by omega, Below.refl _ _⟩
    case round =>
      obtain ⟨j, hj, rfl, heq, hb0⟩ := hrel
      have Heq := Lib.hid heq
      have HB := Lib.hid hb0
      clear heq
      by_cases hlt : j < xs.length
      · obtain ⟨b, off, rfl, hb, hc⟩ := H0.out (by omega)
        obtain ⟨b2, off2, rfl, hb2, hc2⟩ := H02.out (by have := Hl.out; omega)
        have x1 : wr.cell? ⟨b, off + j, none⟩ = some (.int .i64 (gi xs j)) := ((bcell hb0).1 _ _ hb).trans (hc j hlt)
        have x2 : wr.cell? ⟨b2, off2 + j, none⟩ = some (.int .i64 (gi ys j)) := ((bcell hb0).1 _ _ hb2).trans (hc2 j (by have := Hl.out; omega))
        have y1 : (j : Int) < xs.length := by omega
        have y2 : (j : Int) < ys.length := by have := Hl.out; omega
        clear hc hc2 hb0
        by_cases he : gi xs j = gi ys j
        · have he' : (gi xs j != gi ys j) = false := by simpa using he
          have He := Lib.hid he
          clear he
          go_wp2_with fail
          go_quiet (fail)
          go_wp2_with fail
          go_roundw
          case rel => exact ⟨j + 1, by omega, by go_num, Heq.out.succ He.out, bdn HB.out _⟩
          case measure => simp [intOf]; omega
        · have he' : (gi xs j != gi ys j) = true := by simpa using he
          have hres := Lib.hid (show decide (xs = ys) = false by simp only [decide_eq_false_iff_not]; exact fun h => he (by rw [h]))
          clear he
          go_wp2_with fail
          go_quiet (fail)
          go_wp2_with fail
          go_ret
          exact ⟨ret_bool hres.out.symm, bdn HB.out _⟩
      · have hdj : decide ((j : Int) < (xs.length : Int)) = false := by simp; omega
        have hres := Lib.hid (show decide (xs = ys) = true by simp only [decide_eq_true_eq]; exact ext_gi Hl.out (fun k hk => Heq.out k (by omega)))
        go_wp2_with fail
        go_ret
        exact ⟨ret_bool hres.out.symm, HB.out⟩
  · have hl' : ((xs.length : Int) != (ys.length : Int)) = true := by simp; omega
    have hres := Lib.hid (show decide (xs = ys) = false by simp only [decide_eq_false_iff_not]; exact fun h => hl (by rw [h]))
    clear hl
    go_enter Try.func115, Try.ntmps115
    go_wp2_with fail
    go_ret
    exact ⟨ret_bool hres.out.symm, Below.refl _ _⟩
set_option maxHeartbeats 1000000 in
theorem prog_same (n n2 : Int) (v v2 : Value) (xs ys : List Int) (w : World) (hv : RL w.heap.size w v xs) (hv2 : RL w.heap.size w v2 ys) :
    Calls Try.prog 55 #[.agg #[.int .i64 n, v], .agg #[.int .i64 n2, v2]] w fun e w' => e = .returned (.bool (sameB n n2 xs ys)) ∧ Below w.heap.size w w' := by
  obtain ⟨ao, cap, rfl, hle, h0⟩ := hv.open
  obtain ⟨ao2, cap2, rfl, hle2, h02⟩ := hv2.open
  have hloc0 := Loc.two w (.cells #[.int .i64 n, (.slice ao xs.length cap)] 24) (.cells #[.int .i64 n2, (.slice ao2 ys.length cap2)] 24) none
  have Hv := Lib.hid (hv.keepb (below_grownBy hloc0.grown))
  have Hv2 := Lib.hid (hv2.keepb (below_grownBy hloc0.grown))
  clear hv hv2 h0 h02
  by_cases hn : n = n2
  · have hn' : (n == n2) = true := by simpa using hn
    have hres := Lib.hid (show sameB n n2 xs ys = decide (xs = ys) by unfold sameB; simp [hn])
    clear hn
    go_enter Try.func55, Try.ntmps55
    go_wp2_with fail
    refine (prog_equal _ _ xs ys _ Hv.out Hv2.out).mono ?_
    rintro e w5 ⟨rfl, hb5⟩
    go_wp2_with fail
    go_ret
    exact ⟨ret_bool hres.out.symm, below_grownBy (grownBy_trans hloc0.grown (grownBy_below hb5 none))⟩
  · have hn' : (n == n2) = false := by simpa using hn
    have hres := Lib.hid (show sameB n n2 xs ys = false by unfold sameB; simp [hn])
    clear hn
    go_enter Try.func55, Try.ntmps55
    go_wp2_with fail
    go_ret
    exact ⟨ret_bool hres.out.symm, below_grownBy hloc0.grown⟩
set_option maxHeartbeats 1000000 in
theorem kit_same_ratios (v v2 : Value) (cs : List (Int × Int)) (w : World) (hv : RQ w.heap.size w v cs) (hv2 : RQ w.heap.size w v2 cs) :
    Calls Try.prog 38 #[v, v2] w fun e w' => e = .returned (.bool true) ∧ Below w.heap.size w w' := by
  obtain ⟨ao, cap, rfl, hle, h0⟩ := hv.open
  obtain ⟨ao2, cap2, rfl, hle2, h02⟩ := hv2.open
  have H0 := Lib.hid h0
  have H02 := Lib.hid h02
  clear hv hv2 h0 h02
  have hl' : ((cs.length : Int) != (cs.length : Int)) = false := by simp
  go_enter Try.func38, Try.ntmps38
  go_wp2_with fail
  go_loopw [5] (fun i wr => ∃ q : Nat, q ≤ cs.length ∧ i = .int .i64 q ∧ Below w.heap.size w wr) (fun i _ => cs.length - (intOf i).toNat)
  case atStart => exact ⟨0, by omega, rfl, Below.refl _ _⟩
  case round =>
    obtain ⟨q, hq, rfl, hb0⟩ := hrel
    have HB := Lib.hid hb0
    by_cases hlt : q < cs.length
    · obtain ⟨b, off, rfl, hb, hc⟩ := H0.out (by omega)
      obtain ⟨x1, x2⟩ := hc q hlt
      obtain ⟨b2, off2, rfl, hb2, hc2⟩ := H02.out (by omega)
      obtain ⟨z1, z2⟩ := hc2 q hlt
      have y1 := ((bcell hb0).1 _ _ hb).trans x1
      have y2 := ((bcell hb0).1 _ _ hb).trans x2
      have u1 := ((bcell hb0).1 _ _ hb2).trans z1
      have u2 := ((bcell hb0).1 _ _ hb2).trans z2
      have y4 : (q : Int) < cs.length := by omega
      clear hc x1 x2 hc2 z1 z2 hb0
      generalize gq cs q = c at *
      obtain ⟨I, J⟩ := c
      simp only at y1 y2 u1 u2
      go_wp2_with fail
      go_quiet (fail)
      go_wp2_with fail
      go_roundw
      case rel => exact ⟨q + 1, by omega, by go_num, bdn HB.out _⟩
      case measure => simp [intOf]; omega
    · have hdj : decide ((q : Int) < (cs.length : Int)) = false := by simp; omega
      go_wp2_with fail
      go_ret
      exact ⟨rfl, HB.out⟩
end Go.Proofs.Ytkgaipcgdldfdaa
