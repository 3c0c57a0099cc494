/- Contracts of the reference's ratios: size, divisor, Valid, Make, Add, Sub. -/
import Derived.Test.YtkgaipcgdldfdaaRatP
import Derived.Test.YtkgaipcgdldfdaaLim
namespace Go.Proofs.Ytkgaipcgdldfdaa
open Go.RowKit
set_option linter.unusedVariables false

theorem ret_u64 {a b : Int} (h : a = b) : Ending.returned (.int .u64 a) = .returned (.int .u64 b) := by rw [h]
set_option maxHeartbeats 400000 in
theorem r1_size (n : Int) (w : World) (h1 : -9223372036854775808 ≤ n) (h2 : n ≤ 9223372036854775807) :
    Calls Try.prog 142 #[.int .i64 n] w fun e w' => e = .returned (.int .u64 n.natAbs) ∧ w = w' := by
  by_cases hn : n < 0
  · go_enter Try.func142, Try.ntmps142
    go_wp2
    go_ret
    exact ⟨ret_u64 (by omega), rfl⟩
  · go_enter Try.func142, Try.ntmps142
    go_wp2
    go_ret
    exact ⟨ret_u64 (by omega), rfl⟩

set_option maxHeartbeats 400000 in
theorem r1_divisor (x y : Nat) (w : World) (h1 : x < 18446744073709551616) (h2 : y < 18446744073709551616) :
    Calls Try.prog 141 #[.int .u64 x, .int .u64 y] w fun e w' => e = .returned (.int .u64 (Nat.gcd x y)) ∧ ∃ k, w' = w.drewN k := by
  go_enter Try.func141, Try.ntmps141
  go_wp2_with fail
  go_loopw [0, 1] (fun a b wr => ∃ p q : Nat, a = .int .u64 p ∧ b = .int .u64 q ∧ p < 18446744073709551616 ∧ q < 18446744073709551616 ∧ Nat.gcd p q = Nat.gcd x y ∧ ∃ k, wr = w.drewN k) (fun _ b _ => (intOf b).toNat)
  case atStart => exact ⟨x, y, rfl, rfl, h1, h2, rfl, 0, rfl⟩
  case round =>
    obtain ⟨p, q, rfl, rfl, hp, hq, hg, k, rfl⟩ := hrel
    have Hg := Lib.hid hg
    clear hg
    by_cases hq0 : q = 0
    · subst hq0
      go_wp2_with fail
      go_ret
      exact ⟨ret_u64 (by rw [← Hg.out, Nat.gcd_zero_right]), k, rfl⟩
    · have b1 : ((q : Int) != 0) = true := by simp; omega
      have b2 : ¬ ((q : Int) = 0) := by omega
      have b3 := Lib.hid (show Nat.gcd q (p % q) = Nat.gcd x y by rw [← Hg.out, Nat.gcd_comm p q, Nat.gcd_rec q p, Nat.gcd_comm])
      have b4 := Nat.mod_lt p (show 0 < q by omega)
      go_wp2_with fail
      go_quiet (fail)
      go_roundw
      case rel => exact ⟨_, _, _, _, _, _, _, _, ⟨q, p % q, rfl, by go_num, hq, by omega, b3.out, _, World.drewN_drewN _ _ _⟩, rfl⟩
      case measure => simp [intOf]; omega

theorem quiet_same {P : Program} {f : FuncId} {args : Array Value} {w : World} {n : Nat} {v : Value}
    (h : Calls P f args (w.drewN n) fun e w' => e = .returned v ∧ w.drewN n = w') : Calls P f args (w.drewN n) fun e w'' => e = .returned v ∧ ∃ m, w'' = w.drewN m :=
  h.mono fun _ _ ⟨he, hm⟩ => ⟨he, n, hm.symm⟩
/-- The same behind an earlier region of that kind. -/
theorem quiet_same2 {P : Program} {f : FuncId} {args : Array Value} {w : World} {a n : Nat} {v : Value}
    (h : Calls P f args (w.drewN (a + n)) fun e w' => e = .returned v ∧ w.drewN (a + n) = w') : Calls P f args (w.drewN (a + n)) fun e w'' => e = .returned v ∧ ∃ m, w'' = w.drewN (a + m) :=
  h.mono fun _ _ ⟨he, hm⟩ => ⟨he, n, hm.symm⟩
theorem quiet_drew2 {P : Program} {f : FuncId} {args : Array Value} {w : World} {a n : Nat} {v : Value}
    (h : Calls P f args (w.drewN (a + n)) fun e w' => e = .returned v ∧ ∃ m, w' = (w.drewN (a + n)).drewN m) : Calls P f args (w.drewN (a + n)) fun e w'' => e = .returned v ∧ ∃ m, w'' = w.drewN (a + m) :=
  h.mono fun _ _ ⟨he, m, hm⟩ => ⟨he, n + m, by rw [hm, World.drewN_drewN, Nat.add_assoc]⟩
set_option maxHeartbeats 1000000 in
theorem r1_valid (n d : Int) (w : World) :
    Calls Try.prog 116 #[.agg #[.int .i64 n, .int .i64 d]] w fun e w' => e = .returned (.bool (vr n d)) ∧ Below w.heap.size w w' := by
  by_cases h1 : 1 ≤ d
  · by_cases h2 : d ≤ 2147483647
    · by_cases h3 : -2147483647 ≤ n
      · by_cases h4 : n ≤ 2147483647
        · cases h5 : decide (Nat.gcd n.natAbs d.natAbs = 1)
          · have H := Lib.hid (vr_no (n := n) (d := d) (fun h => by simp at h5; exact h5 h.2.2.2.2))
            have hb : ((Nat.gcd n.natAbs d.natAbs : Int) == 1) = false := by simp at h5 ⊢; omega
            clear h5
            go_enter Try.func116, Try.ntmps116
            go_wp2_with fail
            go_quiet ((first | (go_at_call 142; exact quiet_same (r1_size _ _ (by omega) (by omega))) | (go_at_call 141; exact Calls.quiet_of (r1_divisor _ _ _ (by omega) (by omega)))))
            go_wp2_with fail
            go_ret
            exact ⟨ret_bool H.out.symm, bdn ((Below.refl _ _).alloc (Nat.le_refl _) _) _⟩
          · have H := Lib.hid ((vr_iff n d).2 ⟨h1, h2, h3, h4, by simpa using h5⟩)
            have hb : ((Nat.gcd n.natAbs d.natAbs : Int) == 1) = true := by simp at h5 ⊢; omega
            clear h5
            go_enter Try.func116, Try.ntmps116
            go_wp2_with fail
            go_quiet ((first | (go_at_call 142; exact quiet_same (r1_size _ _ (by omega) (by omega))) | (go_at_call 141; exact Calls.quiet_of (r1_divisor _ _ _ (by omega) (by omega)))))
            go_wp2_with fail
            go_ret
            exact ⟨ret_bool H.out.symm, bdn ((Below.refl _ _).alloc (Nat.le_refl _) _) _⟩
        · have H := Lib.hid (vr_no (n := n) (d := d) (fun h => by omega))
          have hd : decide (n ≤ 2147483647) = false := by simpa using h4
          go_enter Try.func116, Try.ntmps116
          go_wp2_with fail
          go_quiet (fail)
          go_wp2_with fail
          go_ret
          exact ⟨ret_bool H.out.symm, bdn ((Below.refl _ _).alloc (Nat.le_refl _) _) _⟩
      · have H := Lib.hid (vr_no (n := n) (d := d) (fun h => by omega))
        have hd : decide (-2147483647 ≤ n) = false := by simpa using h3
        go_enter Try.func116, Try.ntmps116
        go_wp2_with fail
        go_quiet (fail)
        go_wp2_with fail
        go_ret
        exact ⟨ret_bool H.out.symm, bdn ((Below.refl _ _).alloc (Nat.le_refl _) _) _⟩
    · have H := Lib.hid (vr_no (n := n) (d := d) (fun h => by omega))
      have hd : decide (d ≤ 2147483647) = false := by simpa using h2
      go_enter Try.func116, Try.ntmps116
      go_wp2_with fail
      go_quiet (fail)
      go_wp2_with fail
      go_ret
      exact ⟨ret_bool H.out.symm, bdn ((Below.refl _ _).alloc (Nat.le_refl _) _) _⟩
  · have H := Lib.hid (vr_no (n := n) (d := d) (fun h => by omega))
    have hd : decide (1 ≤ d) = false := by simpa using h1
    go_enter Try.func116, Try.ntmps116
    go_wp2_with fail
    go_quiet (fail)
    go_wp2_with fail
    go_ret
    exact ⟨ret_bool H.out.symm, bdn ((Below.refl _ _).alloc (Nat.le_refl _) _) _⟩
/-- What a function that returns a ratio and an error returns. -/
def RE (r : (Int × Int) × Int) (e : Ending) : Prop := e = .returned (.tuple #[.agg #[.int .i64 r.1.1, .int .i64 r.1.2], .int .i64 r.2])
theorem RE.of {r : (Int × Int) × Int} {p q x : Int} (h : r = ((p, q), x)) : RE r (.returned (.tuple #[.agg #[.int .i64 p, .int .i64 q], .int .i64 x])) := by subst h; rfl
end Go.Proofs.Ytkgaipcgdldfdaa
