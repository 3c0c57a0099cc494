/- The law's own comparison of lists of constraints, where they are equal. -/
import Derived.Test.YtkgaipcgdldfdaaQ
import Derived.Test.YtkgaipcgdldfdaaSame
import Derived.Laws.StructEq
import Derived.BigQuiet
namespace Go.Proofs.Ytkgaipcgdldfdaa
open Go.RowKit
set_option linter.unusedVariables false

set_option maxHeartbeats 1000000 in
theorem law_same3 (v v2 : Value) (cs : List (Int × Int × Int)) (w : World) (hv : RK w.heap.size w v cs) (hv2 : RK w.heap.size w v2 cs) :
    Calls Try.prog 15 #[v, v2] w fun e w' => e = .returned (.bool true) ∧ Below w.heap.size w w' := by
  obtain ⟨ao, cap, rfl, hle, h0⟩ := hv.open
  obtain ⟨ao2, cap2, rfl, hle2, h02⟩ := hv2.open
  have H0 := Lib.hid h0
  have H02 := Lib.hid h02
  clear hv hv2 h0 h02
  have hl' : ((cs.length : Int) != (cs.length : Int)) = false := by simp
  go_enter Try.func15, Try.ntmps15
  go_wp2_with fail
  go_loopw [5] (fun i wr => ∃ q : Nat, q ≤ cs.length ∧ i = .int .i64 q ∧ Below w.heap.size w wr) (fun i _ => cs.length - (intOf i).toNat)
  case atStart => exact ⟨0, by omega, rfl, Below.refl _ _⟩
  case round =>
    obtain ⟨q, hq, rfl, hb0⟩ := hrel
    have HB := Lib.hid hb0
    by_cases hlt : q < cs.length
    · obtain ⟨b, off, rfl, hb, hc⟩ := H0.out (by omega)
      obtain ⟨x1, x2, x3⟩ := hc q hlt
      obtain ⟨b2, off2, rfl, hb2, hc2⟩ := H02.out (by omega)
      obtain ⟨z1, z2, z3⟩ := hc2 q hlt
      have y1 := ((bcell hb0).1 _ _ hb).trans x1
      have y2 := ((bcell hb0).1 _ _ hb).trans x2
      have y3 := ((bcell hb0).1 _ _ hb).trans x3
      have u1 := ((bcell hb0).1 _ _ hb2).trans z1
      have u2 := ((bcell hb0).1 _ _ hb2).trans z2
      have u3 := ((bcell hb0).1 _ _ hb2).trans z3
      have y4 : (q : Int) < cs.length := by omega
      clear hc x1 x2 x3 hc2 z1 z2 z3 hb0
      generalize gk cs q = c at *
      obtain ⟨I, J, L⟩ := c
      simp only at y1 y2 y3 u1 u2 u3
      go_wp2_with fail
      go_quiet (fail)
      go_wp2_with fail
      go_roundw
      case rel => exact ⟨q + 1, by omega, by go_num, bdn HB.out _⟩
      case measure => simp [intOf]; omega
    · have hdj : decide ((q : Int) < (cs.length : Int)) = false := by simp; omega
      go_wp2_with fail
      go_ret
      exact ⟨rfl, HB.out⟩
end Go.Proofs.Ytkgaipcgdldfdaa
