/- Contracts of the program's ratios: abs, gcd, Valid. -/
import Derived.Test.YtkgaipcgdldfdaaRatP
import Derived.Test.YtkgaipcgdldfdaaRat
import Derived.Test.YtkgaipcgdldfdaaLim
import Derived.Deep.RegionHeld3
namespace Go.Proofs.Ytkgaipcgdldfdaa
open Go.RowKit
set_option linter.unusedVariables false

set_option maxHeartbeats 400000 in
theorem pr_abs (n : Int) (w : World) (h1 : -9223372036854775808 ≤ n) (h2 : n ≤ 9223372036854775807) :
    Calls Try.prog 146 #[.int .i64 n] w fun e w' => e = .returned (.int .u64 n.natAbs) ∧ w = w' := by
  by_cases hn : n < 0
  · go_enter Try.func146, Try.ntmps146
    go_wp2
    go_ret
    exact ⟨ret_u64 (by simp only [IntKind.wrap_u64]; omega), rfl⟩
  · go_enter Try.func146, Try.ntmps146
    go_wp2
    go_ret
    exact ⟨ret_u64 (by omega), rfl⟩

set_option maxRecDepth 100000 in
set_option maxHeartbeats 1000000 in
theorem pr_step (pb : Nat) (m : Nat) : ∀ (x y : Nat) (w : World), y ≤ m → x < 18446744073709551616 → y < 18446744073709551616 → w.cell? ⟨pb, 0, none⟩ = some (.func (.func 155) #[] #[.pointer (some ⟨pb, 0, none⟩)]) →
    Calls Try.prog 155 #[.int .u64 x, .int .u64 y, .pointer (some ⟨pb, 0, none⟩)] w fun e w' => e = .returned (.int .u64 (Nat.gcd x y)) ∧ ∃ k, w' = w.drewN k := by
  induction m with
  | zero =>
    intro x y w hy hx1 hy1 hc
    obtain rfl : y = 0 := by omega
    go_enter Try.func155, Try.ntmps155
    go_wp2_with fail
    go_ret
    exact ⟨ret_u64 (by rw [Nat.gcd_zero_right]), 0, rfl⟩
  | succ m ih =>
    intro x y w hy hx1 hy1 hc
    by_cases h0 : y = 0
    · subst h0
      go_enter Try.func155, Try.ntmps155
      go_wp2_with fail
      go_ret
      exact ⟨ret_u64 (by rw [Nat.gcd_zero_right]), 0, rfl⟩
    · have b1 : ((y : Int) == 0) = false := by simp; omega
      have b2 : ¬ ((y : Int) = 0) := by omega
      have b3 := Lib.hid (show Nat.gcd y (x % y) = Nat.gcd x y by rw [Nat.gcd_comm x y, Nat.gcd_rec y x, Nat.gcd_comm])
      have b4 := Nat.mod_lt x (show 0 < y by omega)
      have IH := Lib.hid ih
      clear ih
      go_enter Try.func155, Try.ntmps155
      go_wp2_with fail
      have hcast : ((x : Int) % (y : Int)) = ((x % y : Nat) : Int) := (Int.natCast_emod x y).symm
      go_quiet ((go_at_call 155; exact Calls.quiet_of (IH.out y (x % y) _ (by omega) hy1 (by omega) hc)))
      go_wp2_with fail
      go_ret
      exact ⟨ret_u64 (by rw [b3.out]), _, rfl⟩
end Go.Proofs.Ytkgaipcgdldfdaa
