/- The contracts of the limits' functions: what each returns, the world left as it was. -/
import Derived.Test.YtkgaipcgdldfdaaBase
namespace Go.Proofs.Ytkgaipcgdldfdaa
open Go.RowKit

set_option maxHeartbeats 400000 in
theorem ref_valid (l : Int) (w : World) :
    Calls Try.prog 73 #[.int .i64 l] w fun e w' => e = .returned (.bool (vld l)) ∧ w = w' := by
  go_enter Try.func73, Try.ntmps73
  go_wp2
  all_goals go_ret
  all_goals exact ⟨ret_bool (by rw [Bool.eq_iff_iff, vld_iff]; simp <;> omega), rfl⟩

theorem prog_constant (l : Int) (w : World) :
    Calls Try.prog 140 #[.int .i64 l] w fun e w' => e = .returned (.int .i64 (l / 2)) ∧ w = w' := by
  go_enter Try.func140, Try.ntmps140
  go_wp2
  go_ret
  exact ⟨rfl, rfl⟩
set_option maxHeartbeats 400000 in
theorem prog_valid (l : Int) (w : World) :
    Calls Try.prog 99 #[.int .i64 l] w fun e w' => e = .returned (.bool (vld l)) ∧ w = w' := by
  go_enter Try.func99, Try.ntmps99
  go_wp2_with (go_at_call 140; refine (prog_constant _ _).mono ?_; rintro e w' ⟨rfl, rfl⟩)
  all_goals go_ret
  all_goals exact ⟨ret_bool (by rw [Bool.eq_iff_iff, vld_iff]; simp <;> omega), rfl⟩
set_option maxHeartbeats 400000 in
theorem prog_sum (a b : Int) (w : World) :
    Calls Try.prog 76 #[.int .i64 a, .int .i64 b] w fun e w' => e = .returned (.int .i64 (lsum a b)) ∧ w = w' := by
  go_enter Try.func76, Try.ntmps76
  go_wp2
  all_goals go_ret
  · exact ⟨ret_int (lsum_nl _ _ (.inl ‹_›)).symm, rfl⟩
  · exact ⟨ret_int (lsum_nl _ _ (by have h : (a == 1099511627776) = true ∨ (b == 1099511627776) = true := by assumption
                                    simpa using h)).symm, rfl⟩
  · have h : (a == 1099511627776) = false ∧ (b == 1099511627776) = false := by assumption
    simp at h
    exact ⟨ret_int (lsum_bits _ _ h.1 h.2), rfl⟩
set_option maxHeartbeats 400000 in
theorem ref_sum (a b : Int) (w : World) :
    Calls Try.prog 78 #[.int .i64 a, .int .i64 b] w fun e w' => e = .returned (.int .i64 (lsum a b)) ∧ w = w' := by
  go_enter Try.func78, Try.ntmps78
  go_wp2
  all_goals go_ret
  · exact ⟨ret_int (lsum_nl _ _ (.inl ‹_›)).symm, rfl⟩
  · exact ⟨ret_int (lsum_nl _ _ (by have h : (a == 1099511627776) = true ∨ (b == 1099511627776) = true := by assumption
                                    simpa using h)).symm, rfl⟩
  all_goals
    have h : (a == 1099511627776) = false ∧ (b == 1099511627776) = false := by assumption
    simp at h
    refine ⟨ret_int ?_, rfl⟩
  · have k : (b.tmod 2 != 0) = true := by assumption
    exact lsum_odd _ _ h.1 h.2 (.inr (by simpa using k))
  · have k : (b.tmod 2 != 0) = false := by assumption
    exact lsum_even _ _ h.1 h.2 (by assumption) (by simpa using k)
  · exact lsum_odd _ _ h.1 h.2 (.inl (by assumption))
end Go.Proofs.Ytkgaipcgdldfdaa
